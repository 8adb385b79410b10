import Derived.Test.YtcmpmhlcfalbhaaV08
import Derived.Test.YtcmpmhlcfalbhaaV09
namespace Go.Proofs.Ytcmpmhlcfalbhaa
section
open Go.RowKit
abbrev iv (x:Int):Value:=.int .i64 x
abbrev OwnI (w:World) (base:Nat) (A:Option Addr) (n c:Nat) (xs:List Int):Prop:=Own w base 3 1 A n c (xs.map iv)
theorem int_info:(Try.prog.info? 3).map (fun i=>(i.zero,i.size,i.bytes))=some (some (.int .i64 0),1,8):=by kernel_rfl
theorem eInt:Elem Try.prog 29 3 1 8:=elem_of Try.underlying29 int_info rfl (by decide)
theorem wpList_push1 {ops:Array Oper} {rest:List Oper} {o:Oper} {a:Act} {Q:Exit→Act→World→Prop} (hgd:o.guard=none) (s x:Operand) {t e:TypeId} {bytes:Nat} (E:Elem Try.prog t e 1 bytes)
  (ho:o.op= .call {callee:=.builtin .append,args:=#[s,x],argTypes:=#[t,t]})
  {w:World} {base n c:Nat} {A:Option Addr} {vs:List Value} {v:Value} (hs:a.eval s= .slice A n c) (hown:Own w base e 1 A n c vs)
  (hx:a.eval x= .slice (some ⟨w.heap.size,0,none⟩) 1 1) (h1:v.oneCell'=true) (h63:n+1≤maxLen) (hbytes:(n+1)*bytes≤140737488355328) (hbase:base≤w.heap.size)
  (h:∀A2 c2 w',Own w' base e 1 A2 (n+1) c2 (vs++[v])→Only (fun b=>A.map (·.block)=some b) w w'→wpList Try.prog ops Q rest (a.put o.dst (.slice A2 (n+1) c2)) w'):
  wpList Try.prog ops Q (o::rest) a (w.alloc (.cells #[v] e)):=by
 refine wpList_app hgd s x E ho hs (Own.below hown ((Below.refl _ _).alloc (Nat.le_refl _) _) (Nat.le_refl _)) (m:=1) (c':=1) (us:=[v]) hx (RV.of_blk (Blk.new w e #[v])) rfl (by simpa using h1) h63 hbytes (by simp;omega) (by intro h;cases h) ?_
 intro A2 c2 w' ho2 hg hA
 exact h A2 c2 w' ho2 (Only.grown ((Only.refl _ w).alloc _) hg fun k hk=> .inl hk)
def goesL (i:Ins) (n:Nat):List Int:=
 if i.op=1∨i.op=2∨i.op=18 then [] else if i.op=14 then [i.a] else
 if (i.op=15∨i.op=16)∧i.a<(n:Int)+1 then [i.a,(n:Int)+1] else
 if (i.op=15∨i.op=16)∧(n:Int)+1<i.a then [(n:Int)+1,i.a] else [(n:Int)+1]
theorem goesL_len (i:Ins) (n:Nat):(goesL i n).length≤2:=by
 unfold goesL;split
 ·simp
 split
 ·simp
 split
 ·simp
 split<;>simp
def Prg.ins (P:Prg) (f n:Int):Option Ins:=
 if f<0∨n<0 then none else (P.fs[f.toNat]?).bind fun g=>g.code[n.toNat]?
def Prg.len (P:Prg) (f:Int):Nat:=((P.fs[f.toNat]?).map fun g=>g.code.length).getD 0
def Prg.args (P:Prg) (f:Int):Int:=((P.fs[f.toNat]?).map Fun.args).getD 0
def Prg.results (P:Prg) (f:Int):Int:=((P.fs[f.toNat]?).map Fun.results).getD 0
def Prg.locals (P:Prg) (f:Int):Int:=((P.fs[f.toNat]?).map Fun.locals).getD 0
def nextL (P:Prg) (f n:Int):List Int:=
 match P.ins f n with
 |none=>[]
 |some i=>(goesL i n.toNat).filter fun x=>decide (0≤x)&&decide (x<(P.len f:Int))
theorem nextL_len (P:Prg) (f n:Int):(nextL P f n).length≤2:=by
 unfold nextL;split
 ·simp
 exact Nat.le_trans (List.length_filter_le _ _) (goesL_len _ _)
def takesI (P:Prg) (f:Int) (i:Ins):Int×Int:=
 if i.op=17 then (if i.a<0∨(P.fs.length:Int)≤i.a then (0,0) else (P.args i.a,P.results i.a)) else
 if i.op=18 then (P.results f,0) else
 if i.op=19 then ((rowAt callTab i.a).1.2.2.1,(rowAt callTab i.a).1.2.2.2) else
 ((rowAt shapeTab i.op).1.2.2.1,(rowAt shapeTab i.op).1.2.2.2)
def takesL (P:Prg) (f n:Int):Int×Int:=
 match P.ins f n with
 |none=>(0,0)
 |some i=>takesI P f i
def takesR (P:Prg) (f n:Int):Int×Int:=
 match P.ins f n with
 |none=>(0,0)
 |some i=>if i.op=19 then ((rowAt callTab i.a).1.2.2.1,1) else takesI P f i
theorem PrgAt.fn {w:World} {p:PrgM} (h:PrgAt w p) {f:Nat} {g:FunM} (hg:p.fs[f]?=some g):
  ∃b off,p.AF=some ⟨b,off,none⟩∧b<w.heap.size∧w.cell? ⟨b,off+f*4,none⟩=some (.int .i64 g.args)∧w.cell? ⟨b,off+f*4+1,none⟩=some (.int .i64 g.locals)∧
   w.cell? ⟨b,off+f*4+2,none⟩=some (.int .i64 g.results)∧w.cell? ⟨b,off+f*4+3,none⟩=some (.slice g.A g.code.length g.c)∧FunAt w g∧f<p.fs.length:=by
 obtain ⟨hf,e⟩:=List.getElem?_eq_some_iff.1 hg
 obtain ⟨b,off,hA,hb,hc⟩:=h.rv.at_ (by rw[funCells_len];omega)
 obtain ⟨q0,q1,q2,q3⟩:=fun_cells hc f hf
 rw[e] at q0 q1 q2 q3
 exact ⟨b,off,hA,hb,q0,q1,q2,q3,h.funs _ (List.mem_of_getElem? hg),hf⟩
theorem FunAt.ins {w:World} {g:FunM} (h:FunAt w g) {n:Nat} {i:Ins} (hi:g.code[n]?=some i):
  ∃b off,g.A=some ⟨b,off,none⟩∧b<w.heap.size∧w.cell? ⟨b,off+n*2,none⟩=some (.int .i64 i.op)∧w.cell? ⟨b,off+n*2+1,none⟩=some (.int .i64 i.a)∧InsOk i∧n<g.code.length:=by
 obtain ⟨hn,e⟩:=List.getElem?_eq_some_iff.1 hi
 obtain ⟨b,off,hA,hb,hc⟩:=h.rv.at_ (by rw[insCells_len];omega)
 have q0:=hc (n*2+0) (.int .i64 i.op) (by rw[insCells_get g.code n 0 hn (by omega),e];rfl)
 have q1:=hc (n*2+1) (.int .i64 i.a) (by rw[insCells_get g.code n 1 hn (by omega),e];rfl)
 rw[←Nat.add_assoc] at q1
 exact ⟨b,off,hA,hb,q0,q1,h.ok i (List.mem_of_getElem? hi),hn⟩
theorem PrgM.ins_plain (p:PrgM) (f n:Nat):p.plain.ins f n=(p.fs[f]?).bind fun g=>g.code[n]?:=by
 unfold Prg.ins PrgM.plain;rw[if_neg (by omega),Int.toNat_natCast,Int.toNat_natCast]
 rw[List.getElem?_map];cases p.fs[f]?<;>rfl
theorem PrgM.len_plain {p:PrgM} {f:Nat} {g:FunM} (h:p.fs[f]?=some g):p.plain.len f=g.code.length:=by
 unfold Prg.len PrgM.plain;rw[Int.toNat_natCast,List.getElem?_map,h];rfl
theorem PrgM.args_plain {p:PrgM} {f:Nat} {g:FunM} (h:p.fs[f]?=some g):p.plain.args f=g.args:=by
 unfold Prg.args PrgM.plain;rw[Int.toNat_natCast,List.getElem?_map,h];rfl
theorem PrgM.results_plain {p:PrgM} {f:Nat} {g:FunM} (h:p.fs[f]?=some g):p.plain.results f=g.results:=by
 unfold Prg.results PrgM.plain;rw[Int.toNat_natCast,List.getElem?_map,h];rfl
theorem PrgM.locals_plain {p:PrgM} {f:Nat} {g:FunM} (h:p.fs[f]?=some g):p.plain.locals f=g.locals:=by
 unfold Prg.locals PrgM.plain;rw[Int.toNat_natCast,List.getElem?_map,h];rfl
theorem PrgM.spot (p:PrgM) (f n:Int):(p.plain.ins f n=none∧f<0)∨(p.plain.ins f n=none∧(p.fs.length:Int)≤f)∨
  (∃F:Nat,∃g,f=F∧p.fs[F]?=some g∧((p.plain.ins f n=none∧n<0)∨(p.plain.ins f n=none∧(g.code.length:Int)≤n)∨∃k:Nat,∃i,n=k∧g.code[k]?=some i∧p.plain.ins f n=some i)):=by
 by_cases h1:f<0
 ·exact .inl ⟨by unfold Prg.ins;rw[if_pos (.inl h1)],h1⟩
 obtain ⟨F,rfl⟩:=Int.eq_ofNat_of_zero_le (show 0≤f by omega)
 by_cases h2:(p.fs.length:Int)≤F
 ·refine .inr (.inl ⟨?_,h2⟩);unfold Prg.ins;split
  ·rfl
  rw[List.getElem?_eq_none (by unfold PrgM.plain;rw[List.length_map];omega)];rfl
 obtain ⟨g,hg⟩:∃g,p.fs[F]?=some g:=⟨_,List.getElem?_eq_getElem (by omega)⟩
 refine .inr (.inr ⟨F,g,rfl,hg,?_⟩)
 by_cases h3:n<0
 ·exact .inl ⟨by unfold Prg.ins;rw[if_pos (.inr h3)],h3⟩
 obtain ⟨k,rfl⟩:=Int.eq_ofNat_of_zero_le (show 0≤n by omega)
 by_cases h4:(g.code.length:Int)≤k
 ·refine .inr (.inl ⟨?_,h4⟩);rw[PrgM.ins_plain,hg,Option.bind_some,List.getElem?_eq_none (by omega)]
 ·obtain ⟨i,hi⟩:∃i,g.code[k]?=some i:=⟨_,List.getElem?_eq_getElem (by omega)⟩
  exact .inr (.inr ⟨k,i,rfl,hi,by rw[PrgM.ins_plain,hg,Option.bind_some,hi]⟩)
end
section
open Go.RowKit
def IntsPost (w:World) (l:List Int) (e:Ending) (w':World):Prop:=∃A c,e= .returned (.slice A l.length c)∧OwnI w' w.heap.size A l.length c l∧Below w.heap.size w w'
theorem intsPost_nil {w w':World} (hb:Below w.heap.size w w'):IntsPost w [] (.returned (.slice none 0 0)) w':=⟨none,0,rfl,Own.nil _ _ _ _,hb⟩
theorem intsPost_lit {w w1:World} {g:Nat} {vs:Array Value} (l:List Int) (hg:g=w1.heap.size) (hvs:vs=(l.map iv).toArray) (hb:Below w.heap.size w w1) (hl:l.length≤2):
  IntsPost w l (.returned (.slice (some ⟨g,0,none⟩) l.length l.length)) (w1.alloc (.cells vs 3)):=by
 subst hg hvs
 exact ⟨_,_,rfl,by
  have h:=Own.lit w1 3 1 l.length (l.map iv).toArray hb.size (by unfold maxLen;omega) (by simp)
  simpa using h,hb.alloc hb.size _⟩
set_option maxRecDepth 100000 in
theorem goes_any (i:Ins) (n:Nat) (w:World) (hi:InsOk i) (hn:n≤9000000000000000000):
  Calls Try.prog 43 #[.agg #[.int .i64 i.op,.int .i64 i.a],.int .i64 (n:Int)] w (IntsPost w (goesL i n)):=by
 obtain ⟨op,a⟩:=i
 obtain ⟨o1,o2,a1,a2⟩:=hi
 dsimp only at o1 o2 a1 a2
 have key:(op=1∨op=2∨op=18)∨op=14∨((op=15∨op=16)∧a<(n:Int)+1)∨((op=15∨op=16)∧(n:Int)+1<a)∨((op=15∨op=16)∧a=(n:Int)+1)∨(op≠1∧op≠2∧op≠18∧op≠14∧op≠15∧op≠16):=by omega
 have hb:Below w.heap.size w (w.alloc (.cells #[.int .i64 op,.int .i64 a] 45)):=(Below.refl _ _).alloc (Nat.le_refl _) _
 have Hb:=Lib.hid hb
 clear hb
 obtain ⟨R,hR⟩:∃R,R=goesL ⟨op,a⟩ n:=⟨_,rfl⟩
 rw[←hR]
 unfold goesL at hR
 dsimp only at hR
 rcases key with h|h|⟨h,h2⟩|⟨h,h2⟩|⟨h,h2⟩|⟨h1,h2,h3,h4,h5,h6⟩
 ·rw[if_pos h] at hR;have HR:=Lib.hid hR;clear hR;rcases h with h|h|h
  all_goals
   subst h
   go_enter Try.func43,Try.ntmps43
   go_wp2_with fail
   go_ret
   rw[HR.out]
   exact intsPost_nil Hb.out
 ·rw[if_neg (by omega),if_pos h] at hR
  have HR:=Lib.hid hR;clear hR;subst h;go_enter Try.func43,Try.ntmps43
  go_wp2_with fail
  go_ret
  rw[HR.out];exact intsPost_lit [a] (by simp) rfl Hb.out (by simp)
 ·rw[if_neg (by omega),if_neg (by omega),if_pos ⟨h,h2⟩] at hR
  have HR:=Lib.hid hR;clear hR;rcases h with h|h
  all_goals
   subst h
   go_enter Try.func43,Try.ntmps43
   go_wp2_with fail
   go_ret
   rw[HR.out]
   exact intsPost_lit [a,(n:Int)+1] (by simp) rfl Hb.out (by simp)
 ·rw[if_neg (by omega),if_neg (by omega),if_neg (by omega),if_pos ⟨h,h2⟩] at hR
  have HR:=Lib.hid hR;clear hR;rcases h with h|h
  all_goals
   subst h
   go_enter Try.func43,Try.ntmps43
   go_wp2_with fail
   go_ret
   rw[HR.out]
   exact intsPost_lit [(n:Int)+1,a] (by simp) rfl Hb.out (by simp)
 ·rw[if_neg (by omega),if_neg (by omega),if_neg (by omega),if_neg (by omega)] at hR
  have HR:=Lib.hid hR;clear hR;subst h2;rcases h with h|h
  all_goals
   subst h
   go_enter Try.func43,Try.ntmps43
   go_wp2_with fail
   go_ret
   rw[HR.out]
   exact intsPost_lit [(n:Int)+1] (by simp) rfl Hb.out (by simp)
 ·rw[if_neg (by omega),if_neg (by omega),if_neg (by omega),if_neg (by omega)] at hR
  have HR:=Lib.hid hR;clear hR;go_enter Try.func43,Try.ntmps43
  go_wp2_with fail
  go_ret
  rw[HR.out];exact intsPost_lit [(n:Int)+1] (by simp) rfl Hb.out (by simp)
end
section
open Go.RowKit
theorem OwnI.push {w:World} {base c:Nat} {A:Option Addr} {xs:List Int} {x:Int} (h:Own w base 3 1 A (xs.length+1) c (xs.map iv++[.int .i64 x])):OwnI w base A (xs++[x]).length c (xs++[x]):=by
 unfold OwnI;rw[List.length_append,List.map_append];exact h
theorem take_next {α:Type} (l:List α) (j:Nat) (h:j<l.length):l.take (j+1)=l.take j++[l[j]]:=by
 rw[List.take_add_one,List.getElem?_eq_getElem h];rfl
theorem OwnI.at_ {w:World} {base g c:Nat} {n:Nat} {xs:List Int} (h:OwnI w base (some ⟨g,0,none⟩) n c xs) (j:Nat) (hj:j<xs.length):w.cell? ⟨g,j,none⟩=some (.int .i64 xs[j]):=by
 obtain ⟨e0,-,-⟩:=own_at h j (by rw[List.length_map];exact hj)
 rw[List.getElem_map] at e0;exact e0
end
section
open Go.RowKit
def insV:Option Ins→Value
 |none=> .agg #[.int .i64 0,.int .i64 0]
 |some i=> .agg #[.int .i64 i.op,.int .i64 i.a]
def SpotPost (w:World) (r:Option Ins) (e:Ending) (w':World):Prop:=e= .returned (.tuple #[insV r,.bool r.isSome])∧Below w.heap.size w w'
set_option maxRecDepth 100000 in
set_option maxHeartbeats 2000000 in
theorem instr_any (p:PrgM) (f n:Int) (w:World) (h:PrgAt w p):Calls Try.prog 42 #[p.val,.agg #[.int .i64 f,.int .i64 n]] w (SpotPost w (p.plain.ins f n)):=by
 obtain ⟨mem,AD,cD,data,AF,cF,fs⟩:=p;obtain ⟨R,hR⟩:∃R,R=(PrgM.plain ⟨mem,AD,cD,data,AF,cF,fs⟩).ins f n:=⟨_,rfl⟩;have hfl:fs.length≤2932031007402:=h.flen;have hkey:=PrgM.spot ⟨mem,AD,cD,data,AF,cF,fs⟩ f n;rw[←hR] at hkey ⊢;clear hR;obtain ⟨w1,hw1⟩:∃w1,w1=((w.alloc (.cells #[.int .i64 mem,.slice AD data.length cD,.slice AF fs.length cF] 26)).alloc (.cells #[.int .i64 f,.int .i64 n] 35)).alloc (.cells #[.int .i64 0,.int .i64 0] 45):=⟨_,rfl⟩;have hb1:Below w.heap.size w w1:=by rw[hw1];exact (((Below.refl _ _).alloc (Nat.le_refl _) _).alloc (by simp) _).alloc (by simp;omega) _
 have hz1:w1.heap.size=w.heap.size+3:=by rw[hw1];simp
 have hX1:Blk w1 w.heap.size 26 #[.int .i64 mem,.slice AD data.length cD,.slice AF fs.length cF]:=by rw[hw1];exact ((Blk.new w _ _).alloc _).alloc _
 have hS1:Blk w1 (w.heap.size+1) 35 #[.int .i64 f,.int .i64 n]:=by
  rw[hw1];have h:=Blk.new (w.alloc (.cells #[.int .i64 mem,.slice AD data.length cD,.slice AF fs.length cF] 26)) 35 #[.int .i64 f,.int .i64 n];rw[World.size_alloc] at h;exact h.alloc _
 have hI1:Blk w1 (w.heap.size+1+1) 45 #[.int .i64 0,.int .i64 0]:=by
  rw[hw1];have h:=Blk.new ((w.alloc (.cells #[.int .i64 mem,.slice AD data.length cD,.slice AF fs.length cF] 26)).alloc (.cells #[.int .i64 f,.int .i64 n] 35)) 45 #[.int .i64 0,.int .i64 0];rw[World.size_alloc,World.size_alloc] at h;exact h
 obtain ⟨gx,hgx⟩:∃g,g=w.heap.size:=⟨_,rfl⟩;obtain ⟨gs,hgs⟩:∃g,g=w.heap.size+1:=⟨_,rfl⟩;obtain ⟨gi,hgi⟩:∃g,g=w.heap.size+1+1:=⟨_,rfl⟩;rw[←hgx] at hX1;rw[←hgs] at hS1;rw[←hgi] at hI1;have x2:w1.cell? ⟨gx,2,none⟩=some (.slice AF fs.length cF):=hX1.cell 2;have s0:w1.cell? ⟨gs,0,none⟩=some (.int .i64 f):=hS1.cell 0;have s1:w1.cell? ⟨gs,1,none⟩=some (.int .i64 n):=hS1.cell 1;have i0:w1.cell? ⟨gi,0,none⟩=some (.int .i64 0):=hI1.cell 0;have i1:w1.cell? ⟨gi,1,none⟩=some (.int .i64 0):=hI1.cell 1;have if0:w1.frozen? ⟨gi,0,none⟩=false:=hI1.frozen 0;have if1:w1.frozen? ⟨gi,1,none⟩=false:=hI1.frozen 1;have xl:=hX1.lt;have sl:=hS1.lt;have il:=hI1.lt;have hxs:gx<gs:=by omega
 have hsi:gs<gi:=by omega
 have Hw1:=Lib.hid hw1;have Hb1:=Lib.hid hb1;have HP:=Lib.hid (h.below hb1);have HI:=Lib.hid hI1;have Hgi2:Hid (w.heap.size≤gi):=Lib.hid (by omega)
 rw[←hgx] at hgs hgi;have Hgx:=Lib.hid hgx;have Hgs:=Lib.hid hgs;have Hgi:=Lib.hid hgi;clear h hw1 hb1 hX1 hS1 hI1 hz1 hgx hgs hgi;rcases hkey with ⟨he,h1⟩|⟨he,h1⟩|⟨F,g,rfl,hg,hrest⟩
 ·have d1:decide (f<0)=true:=by simpa using h1
  go_enter Try.func42,Try.ntmps42
  go_wp2_with fail
  rw[←Hw1.out, ←Hgx.out, ←Hgi.out, ←Hgs.out];go_quiet (fail)
  go_wp2_with fail
  refine bodyPost_ret (v:=.tuple #[insV none,.bool false]) ?_ rfl ⟨by rw[he];rfl,?_⟩
  ·simp[results,Try.results42,go_sem,insV,i0,i1]
  exact ((below_drewN Hb1.out _).setCell Hgi2.out _).setCell Hgi2.out _
 ·dsimp only at h1;have d1:decide (f<0)=false:=by simp;omega
  have d2:decide ((fs.length:Int)≤f)=true:=by simpa using h1
  go_enter Try.func42,Try.ntmps42
  go_wp2_with fail
  rw[←Hw1.out, ←Hgx.out, ←Hgi.out, ←Hgs.out];go_quiet (fail)
  go_wp2_with fail
  refine bodyPost_ret (v:=.tuple #[insV none,.bool false]) ?_ rfl ⟨by rw[he];rfl,?_⟩
  ·simp[results,Try.results42,go_sem,insV,i0,i1]
  exact ((below_drewN Hb1.out _).setCell Hgi2.out _).setCell Hgi2.out _
 obtain ⟨b,off,hA,hb,q0,q1,q2,q3,hF,hfl2⟩:=HP.out.fn hg;dsimp only at hA hfl2 hg;subst hA;have d1:decide ((F:Int)<0)=false:=by simp
 have d2:decide (fs.length≤F)=false:=by simp;omega
 have hFl:(F:Int)<(fs.length:Int):=by omega
 have hcl:=hF.len;obtain ⟨ga,gl,gr,gA,gc,gcode⟩:=g;dsimp only at q0 q1 q2 q3 hcl hrest;have HF:=Lib.hid hF;clear hF hg;rcases hrest with ⟨he,h1⟩|⟨he,h1⟩|⟨k,i,rfl,hi,he⟩
 ·have d3:decide (n<0)=true:=by simpa using h1
  go_enter Try.func42,Try.ntmps42
  go_wp2_with fail
  rw[←Hw1.out, ←Hgx.out, ←Hgi.out, ←Hgs.out];go_quiet (fail)
  go_wp2_with fail
  refine bodyPost_ret (v:=.tuple #[insV none,.bool false]) ?_ rfl ⟨by rw[he];rfl,?_⟩
  ·simp[results,Try.results42,go_sem,insV,i0,i1]
  exact ((below_drewN Hb1.out _).setCell Hgi2.out _).setCell Hgi2.out _
 ·have d3:decide (n<0)=false:=by simp;omega
  have d4:decide ((gcode.length:Int)≤n)=true:=by simpa using h1
  go_enter Try.func42,Try.ntmps42
  go_wp2_with fail
  rw[←Hw1.out, ←Hgx.out, ←Hgi.out, ←Hgs.out];go_quiet (fail)
  go_wp2_with fail
  refine bodyPost_ret (v:=.tuple #[insV none,.bool false]) ?_ rfl ⟨by rw[he];rfl,?_⟩
  ·simp[results,Try.results42,go_sem,insV,i0,i1]
  exact ((below_drewN Hb1.out _).setCell Hgi2.out _).setCell Hgi2.out _
 obtain ⟨b2,off2,hA,hb2,r0,r1,hio,hn⟩:=HF.out.ins hi;dsimp only at hA hn;subst hA;have d3:decide ((k:Int)<0)=false:=by simp
 have d4:decide (gcode.length≤k)=false:=by simp;omega
 have hkl:(k:Int)<(gcode.length:Int):=by omega
 obtain ⟨op,a⟩:=i;dsimp only at r0 r1;clear hi;go_enter Try.func42,Try.ntmps42
 go_wp2_with fail
 rw[←Hw1.out, ←Hgx.out, ←Hgi.out, ←Hgs.out];go_quiet (fail)
 go_wp2_with fail
 go_region
 all_goals
  go_wp2_with fail
  refine bodyPost_ret (v:=.tuple #[insV (some ⟨op,a⟩),.bool true]) ?_ rfl ⟨by rw[he];rfl,?_⟩
  ·simp[results,Try.results42,go_sem,insV,i0,i1]
  exact ((below_drewN Hb1.out _).setCell Hgi2.out _).setCell Hgi2.out _
theorem PrgM.spot_some {p:PrgM} {f n:Int} {i:Ins} (h:p.plain.ins f n=some i):∃F k:Nat,∃g,f=F∧n=k∧p.fs[F]?=some g∧g.code[k]?=some i:=by
 rcases PrgM.spot p f n with ⟨he,-⟩|⟨he,-⟩|⟨F,g,rfl,hg,⟨he,-⟩|⟨he,-⟩|⟨k,j,rfl,hi,he⟩⟩
 ·rw[he] at h;cases h
 ·rw[he] at h;cases h
 ·rw[he] at h;cases h
 ·rw[he] at h;cases h
 rw[he] at h;injection h with h
 subst h;exact ⟨F,k,g,rfl,rfl,hg,hi⟩
def TakesPost (w:World) (r:Int×Int) (e:Ending) (w':World):Prop:=e= .returned (.tuple #[.int .i64 r.1,.int .i64 r.2])∧Below w.heap.size w w'
theorem rowAt_no (t:List (List UInt8×Int×Int×Int)) (i:Int):(rowAt t i).2=false→(rowAt t i).1.2.2.1=0∧(rowAt t i).1.2.2.2=0:=by
 unfold rowAt;split
 ·split
  ·intro h;cases h
  intro _;exact ⟨rfl,rfl⟩
 intro _;exact ⟨rfl,rfl⟩
set_option maxRecDepth 100000 in
set_option maxHeartbeats 2000000 in
theorem takes_any (p:PrgM) (f n:Int) (w:World) (h:PrgAt w p):Calls Try.prog 19 #[p.val,.agg #[.int .i64 f,.int .i64 n]] w (TakesPost w (takesL p.plain f n)):=by
 obtain ⟨R,hR⟩:∃R,R=takesL p.plain f n:=⟨_,rfl⟩;rw[←hR];have HR0:=Lib.hid hR;clear hR;have hfl:p.fs.length≤2932031007402:=h.flen;obtain ⟨w1,hw1⟩:∃w1,w1=(w.alloc (.cells #[.int .i64 p.mem,.slice p.AD p.data.length p.cD,.slice p.AF p.fs.length p.cF] 26)).alloc (.cells #[.int .i64 f,.int .i64 n] 35):=⟨_,rfl⟩;have hb1:Below w.heap.size w w1:=by rw[hw1];exact ((Below.refl _ _).alloc (Nat.le_refl _) _).alloc (by simp) _
 have hX1:Blk w1 w.heap.size 26 #[.int .i64 p.mem,.slice p.AD p.data.length p.cD,.slice p.AF p.fs.length p.cF]:=by rw[hw1];exact (Blk.new w _ _).alloc _
 have hS1:Blk w1 (w.heap.size+1) 35 #[.int .i64 f,.int .i64 n]:=by
  rw[hw1];have h:=Blk.new (w.alloc (.cells #[.int .i64 p.mem,.slice p.AD p.data.length p.cD,.slice p.AF p.fs.length p.cF] 26)) 35 #[.int .i64 f,.int .i64 n];rw[World.size_alloc] at h;exact h
 obtain ⟨gx,hgx⟩:∃g,g=w.heap.size:=⟨_,rfl⟩;obtain ⟨gs,hgs⟩:∃g,g=w.heap.size+1:=⟨_,rfl⟩;rw[←hgx] at hX1;rw[←hgs] at hS1;have x0:w1.cell? ⟨gx,0,none⟩=some (.int .i64 p.mem):=hX1.cell 0;have x1:w1.cell? ⟨gx,1,none⟩=some (.slice p.AD p.data.length p.cD):=hX1.cell 1;have x2:w1.cell? ⟨gx,2,none⟩=some (.slice p.AF p.fs.length p.cF):=hX1.cell 2;have s0:w1.cell? ⟨gs,0,none⟩=some (.int .i64 f):=hS1.cell 0;have s1:w1.cell? ⟨gs,1,none⟩=some (.int .i64 n):=hS1.cell 1;have xl:=hX1.lt;have sl:=hS1.lt;have HX:=Lib.hid hX1;have HS:=Lib.hid hS1;have Hw1:=Lib.hid hw1;have Hb1:=Lib.hid hb1;have HP:=Lib.hid (h.below hb1);rw[←hgx] at hgs;have Hgx:=Lib.hid hgx;have Hgs:=Lib.hid hgs;have Hat:=Lib.hid (instr_any p f n w1 (h.below hb1));clear h hw1 hb1 hX1 hS1 hgx hgs;go_enter Try.func19,Try.ntmps19
 go_wp2_with (refine wpList_at 13 rfl ?_;refine wp_stop ?_)
 try refine ⟨?_⟩
 rw[←Hw1.out, ←Hgx.out, ←Hgs.out];go_wp2_with fail
 refine Hat.out.mono ?_;rintro e w2 ⟨rfl,hb2⟩;have HX2:=Lib.hid (HX.out.below hb2 HX.out.lt);have HS2:=Lib.hid (HS.out.below hb2 HS.out.lt);have HP2:=Lib.hid (HP.out.below hb2);have Hb2:=Lib.hid (Hb1.out.trans (hb2.mono Hb1.out.size));clear x0 x1 x2 s0 s1 xl sl hb2 Hat HX HS HP Hb1 Hw1;have x2:w2.cell? ⟨gx,2,none⟩=some (.slice p.AF p.fs.length p.cF):=HX2.out.cell 2;have s0:w2.cell? ⟨gs,0,none⟩=some (.int .i64 f):=HS2.out.cell 0;have xl:=HX2.out.lt;have sl:=HS2.out.lt;cases he:p.plain.ins f n with
 |none=>
  have hR:=HR0.out;unfold takesL at hR;rw[he] at hR;clear HR0;have HR:=Lib.hid hR;clear hR;dsimp only[insV,Option.isSome];go_wp2_with fail
  refine bodyPost_ret (v:=.tuple #[.int .i64 R.1,.int .i64 R.2]) ?_ rfl ⟨rfl,Hb2.out.alloc Hb2.out.size _⟩;simp[results,Try.results19,go_sem,HR.out]
 |some i=>
  have hR:=HR0.out;unfold takesL at hR;rw[he] at hR;dsimp only at hR;clear HR0;obtain ⟨F,k,g,rfl,rfl,hg,hi⟩:=PrgM.spot_some he;obtain ⟨op,a⟩:=i;obtain ⟨b,off,hA,hb,q0,q1,q2,q3,hF,hFl⟩:=HP2.out.fn hg;have hgr:=PrgM.results_plain hg;obtain ⟨w3,hw3⟩:∃w3,w3=w2.alloc (.cells #[.int .i64 op,.int .i64 a] 45):=⟨_,rfl⟩;have hb23:Below w2.heap.size w2 w3:=by rw[hw3];exact (Below.refl _ _).alloc (Nat.le_refl _) _
  have Hb3:=Lib.hid (Hb2.out.trans (hb23.mono Hb2.out.size));have hI3:Blk w3 w2.heap.size 45 #[.int .i64 op,.int .i64 a]:=by rw[hw3];exact Blk.new _ _ _
  obtain ⟨gi,hgi⟩:∃g,g=w2.heap.size:=⟨_,rfl⟩;rw[←hgi] at hI3;have HX3:=Lib.hid (HX2.out.below hb23 xl);have HS3:=Lib.hid (HS2.out.below hb23 sl);have HP3:=Lib.hid (HP2.out.below hb23);have HI3:=Lib.hid hI3;have Hw3:=Lib.hid hw3;have Hgi:=Lib.hid hgi;have HFl:=Lib.hid hFl;have Hg:=Lib.hid hg;have Hgr:=Lib.hid hgr;have HR:=Lib.hid hR;clear x2 s0 xl sl HX2 HS2 HP2 Hb2 hw3 hb23 hI3 hgi hR hA hb q0 q1 q2 q3 hF hFl he hi hg hgr;dsimp only[insV,Option.isSome];go_wp2_with (refine wpList_at 20 rfl ?_;refine wp_stop ?_)
  try refine ⟨?_⟩
  rw[←Hw3.out, ←Hgi.out];have x2:w3.cell? ⟨gx,2,none⟩=some (.slice p.AF p.fs.length p.cF):=HX3.out.cell 2;have s0:w3.cell? ⟨gs,0,none⟩=some (.int .i64 (F:Int)):=HS3.out.cell 0;have i0:w3.cell? ⟨gi,0,none⟩=some (.int .i64 op):=HI3.out.cell 0;have i1:w3.cell? ⟨gi,1,none⟩=some (.int .i64 a):=HI3.out.cell 1;have xl:=HX3.out.lt;have sl:=HS3.out.lt;have il:=HI3.out.lt;by_cases h17:op=17
  ·subst h17;by_cases ha:a<0∨(p.fs.length:Int)≤a
   ·have HR2:=Lib.hid (show R=(0,0) from by rw[HR.out];unfold takesI;rw[if_pos rfl,if_pos (by unfold PrgM.plain;simpa using ha)])
    clear HR;by_cases ha1:a<0
    ·have d1:decide (a<0)=true:=by simpa using ha1
     clear ha;go_wp2_with fail
     refine bodyPost_ret (v:=.tuple #[.int .i64 R.1,.int .i64 R.2]) ?_ rfl ⟨rfl,Hb3.out⟩;simp[results,Try.results19,go_sem,HR2.out]
    have d1:decide (a<0)=false:=by simpa using ha1
    have ha2:(p.fs.length:Int)≤a:=by omega
    have d2:decide ((p.fs.length:Int)≤a)=true:=by simpa using ha2
    clear ha;go_wp2_with fail
    refine bodyPost_ret (v:=.tuple #[.int .i64 R.1,.int .i64 R.2]) ?_ rfl ⟨rfl,Hb3.out⟩;simp[results,Try.results19,go_sem,HR2.out]
   obtain ⟨G,rfl⟩:=Int.eq_ofNat_of_zero_le (show 0≤a by omega)
   obtain ⟨g2,hg2⟩:∃g,p.fs[G]?=some g:=⟨_,List.getElem?_eq_getElem (by omega)⟩
   have HR2:=Lib.hid (show R=(g2.args,g2.results) from by rw[HR.out];unfold takesI;rw[if_pos rfl,if_neg (by unfold PrgM.plain;simpa using ha)];dsimp only;rw[PrgM.args_plain hg2,PrgM.results_plain hg2])
   obtain ⟨b,off,hA,hb,q0,q1,q2,q3,hF,hFl⟩:=HP3.out.fn hg2;have d1:decide ((G:Int)<0)=false:=by simp
   have d2:decide ((p.fs.length:Int)≤(G:Int))=false:=by simp;omega
   have hGl:(G:Int)<(p.fs.length:Int):=by omega
   rw[hA] at x2;clear HR ha hF hg2 hA q1 q3;go_wp2_with fail
   go_region
   all_goals
    go_wp2_with fail
    refine bodyPost_ret (v:=.tuple #[.int .i64 R.1,.int .i64 R.2]) ?_ rfl ⟨rfl,below_drewN Hb3.out _⟩
    simp[results,Try.results19,go_sem,HR2.out]
  by_cases h18:op=18
  ·subst h18;have HR2:=Lib.hid (show R=(g.results,0) from by rw[HR.out];unfold takesI;rw[if_neg (show ¬ (18:Int)=17 by decide),if_pos rfl];show (p.plain.results F,0)=_;rw[Hgr.out])
   obtain ⟨b,off,hA,hb,q0,q1,q2,q3,hF,hFl⟩:=HP3.out.fn Hg.out;have hGl:(F:Int)<(p.fs.length:Int):=by omega
   rw[hA] at x2;clear HR hF hA q0 q1 q3;go_wp2_with fail
   refine bodyPost_ret (v:=.tuple #[.int .i64 R.1,.int .i64 R.2]) ?_ rfl ⟨rfl,Hb3.out⟩;simp[results,Try.results19,go_sem,HR2.out]
  by_cases h19:op=19
  ·subst h19;have HR2:=Lib.hid (show R=((rowAt callTab a).1.2.2.1,(rowAt callTab a).1.2.2.2) from by rw[HR.out];unfold takesI;rw[if_neg (show ¬ (19:Int)=17 by decide),if_neg (show ¬ (19:Int)=18 by decide),if_pos rfl])
   clear HR;have Hsys:=Lib.hid (sys_any a w3);go_wp2_with fail
   refine Hsys.out.mono ?_;rintro e w4 ⟨rfl,hb4⟩;have Hb4:=Lib.hid (Hb3.out.trans (hb4.mono Hb3.out.size));generalize rowAt callTab a=row at*
   obtain ⟨⟨r0,r1,r2,r3⟩,r4⟩:=row;dsimp only[rowVal];clear Hsys hb4 x2 s0 i0 i1 xl sl il;go_wp2_with fail
   go_region
   all_goals
    go_wp2_with fail
    refine bodyPost_ret (v:=.tuple #[.int .i64 R.1,.int .i64 R.2]) ?_ rfl ⟨rfl,below_drewN (Hb4.out.alloc Hb4.out.size _) _⟩
    simp[results,Try.results19,go_sem,HR2.out]
  have HR2:=Lib.hid (show R=((rowAt shapeTab op).1.2.2.1,(rowAt shapeTab op).1.2.2.2) from by rw[HR.out];unfold takesI;rw[if_neg h17,if_neg h18,if_neg h19])
  clear HR;have Hof:=Lib.hid (of_any op w3);go_wp2_with fail
  refine Hof.out.mono ?_;rintro e w4 ⟨rfl,hb4⟩;have Hb4:=Lib.hid (Hb3.out.trans (hb4.mono Hb3.out.size));generalize rowAt shapeTab op=row at*
  obtain ⟨⟨r0,r1,r2,r3⟩,r4⟩:=row;dsimp only[rowVal];clear Hof hb4 x2 s0 i0 i1 xl sl il;go_wp2_with fail
  go_region
  all_goals
   go_wp2_with fail
   refine bodyPost_ret (v:=.tuple #[.int .i64 R.1,.int .i64 R.2]) ?_ rfl ⟨rfl,below_drewN (Hb4.out.alloc Hb4.out.size _) _⟩
   simp[results,Try.results19,go_sem,HR2.out]
end
section
open Go.RowKit
set_option maxRecDepth 100000 in
set_option maxHeartbeats 2000000 in
theorem next_any (p:PrgM) (f n:Int) (w:World) (h:PrgAt w p):Calls Try.prog 18 #[p.val,.agg #[.int .i64 f,.int .i64 n]] w (IntsPost w (nextL p.plain f n)):=by
 obtain ⟨R,hR⟩:∃R,R=nextL p.plain f n:=⟨_,rfl⟩;rw[←hR];have HR0:=Lib.hid hR;clear hR;have hfl:p.fs.length≤2932031007402:=h.flen;obtain ⟨w1,hw1⟩:∃w1,w1=(w.alloc (.cells #[.int .i64 p.mem,.slice p.AD p.data.length p.cD,.slice p.AF p.fs.length p.cF] 26)).alloc (.cells #[.int .i64 f,.int .i64 n] 35):=⟨_,rfl⟩;have hb1:Below w.heap.size w w1:=by rw[hw1];exact ((Below.refl _ _).alloc (Nat.le_refl _) _).alloc (by simp) _
 have hX1:Blk w1 w.heap.size 26 #[.int .i64 p.mem,.slice p.AD p.data.length p.cD,.slice p.AF p.fs.length p.cF]:=by rw[hw1];exact (Blk.new w _ _).alloc _
 have hS1:Blk w1 (w.heap.size+1) 35 #[.int .i64 f,.int .i64 n]:=by
  rw[hw1];have h:=Blk.new (w.alloc (.cells #[.int .i64 p.mem,.slice p.AD p.data.length p.cD,.slice p.AF p.fs.length p.cF] 26)) 35 #[.int .i64 f,.int .i64 n];rw[World.size_alloc] at h;exact h
 obtain ⟨gx,hgx⟩:∃g,g=w.heap.size:=⟨_,rfl⟩;obtain ⟨gs,hgs⟩:∃g,g=w.heap.size+1:=⟨_,rfl⟩;rw[←hgx] at hX1;rw[←hgs] at hS1;have x0:w1.cell? ⟨gx,0,none⟩=some (.int .i64 p.mem):=hX1.cell 0;have x1:w1.cell? ⟨gx,1,none⟩=some (.slice p.AD p.data.length p.cD):=hX1.cell 1;have x2:w1.cell? ⟨gx,2,none⟩=some (.slice p.AF p.fs.length p.cF):=hX1.cell 2;have s0:w1.cell? ⟨gs,0,none⟩=some (.int .i64 f):=hS1.cell 0;have s1:w1.cell? ⟨gs,1,none⟩=some (.int .i64 n):=hS1.cell 1;have xl:=hX1.lt;have sl:=hS1.lt;have HX:=Lib.hid hX1;have HS:=Lib.hid hS1;have Hw1:=Lib.hid hw1;have Hb1:=Lib.hid hb1;have HP:=Lib.hid (h.below hb1);rw[←hgx] at hgs;have Hgx:=Lib.hid hgx;have Hgs:=Lib.hid hgs;have Hat:=Lib.hid (instr_any p f n w1 (h.below hb1));clear h hw1 hb1 hX1 hS1 hgx hgs;go_enter Try.func18,Try.ntmps18
 go_wp2_with (refine wpList_at 11 rfl ?_;refine wp_stop ?_)
 try refine ⟨?_⟩
 rw[←Hw1.out, ←Hgx.out, ←Hgs.out];go_wp2_with fail
 refine Hat.out.mono ?_;rintro e w2 ⟨rfl,hb2⟩;have HX2:=Lib.hid (HX.out.below hb2 HX.out.lt);have HS2:=Lib.hid (HS.out.below hb2 HS.out.lt);have HP2:=Lib.hid (HP.out.below hb2);have Hb2:=Lib.hid (Hb1.out.trans (hb2.mono Hb1.out.size));clear x0 x1 x2 s0 s1 xl sl hb2 Hat HX HS HP Hb1 Hw1;have s1:w2.cell? ⟨gs,1,none⟩=some (.int .i64 n):=HS2.out.cell 1;have sl:=HS2.out.lt;cases he:p.plain.ins f n with
 |none=>
  have hR:=HR0.out;unfold nextL at hR;rw[he] at hR;have HR:=Lib.hid hR;clear HR0 hR;dsimp only[insV,Option.isSome];go_wp2_with fail
  go_ret
  rw[HR.out];exact intsPost_nil (Hb2.out.alloc Hb2.out.size _)
 |some i=>
  have hR:=HR0.out;unfold nextL at hR;rw[he] at hR;dsimp only at hR;clear HR0;obtain ⟨F,k,g,rfl,rfl,hg,hi⟩:=PrgM.spot_some he;rw[Int.toNat_natCast,PrgM.len_plain hg] at hR;obtain ⟨b,off,hA,hb,q0,q1,q2,q3,hF,hFl⟩:=HP2.out.fn hg;obtain ⟨-,-,-,-,-,-,hio,hkl⟩:=hF.ins hi;have hcl:=hF.len;obtain ⟨w3,hw3⟩:∃w3,w3=w2.alloc (.cells #[.int .i64 i.op,.int .i64 i.a] 45):=⟨_,rfl⟩;have hb23:Below w2.heap.size w2 w3:=by rw[hw3];exact (Below.refl _ _).alloc (Nat.le_refl _) _
  have hI3:Blk w3 w2.heap.size 45 #[.int .i64 i.op,.int .i64 i.a]:=by rw[hw3];exact Blk.new _ _ _
  obtain ⟨gi,hgi⟩:∃g,g=w2.heap.size:=⟨_,rfl⟩;rw[←hgi] at hI3;have Hb3:=Lib.hid (Hb2.out.trans (hb23.mono Hb2.out.size));have HX3:=Lib.hid (HX2.out.below hb23 HX2.out.lt);have HS3:=Lib.hid (HS2.out.below hb23 HS2.out.lt);have HP3:=Lib.hid (HP2.out.below hb23);have HI3:=Lib.hid hI3;have Hw3:=Lib.hid hw3;have Hgi:=Lib.hid hgi;have Hg:=Lib.hid hg;have HR:=Lib.hid hR;have Hgo:=Lib.hid (goes_any i k w3 hio (by omega))
  clear s1 sl HX2 HS2 HP2 Hb2 hw3 hb23 hI3 hgi hR hA hb q0 q1 q2 q3 hF he hi hg hio;obtain ⟨op,a⟩:=i;dsimp only[insV,Option.isSome];go_wp2_with (refine wpList_at 18 rfl ?_;refine wp_stop ?_)
  try refine ⟨?_⟩
  try dsimp only at Hw3
  try dsimp only at HI3
  try dsimp only at Hgo
  rw[←Hw3.out, ←Hgi.out];have s1:w3.cell? ⟨gs,1,none⟩=some (.int .i64 (k:Int)):=HS3.out.cell 1;have i0:w3.cell? ⟨gi,0,none⟩=some (.int .i64 op):=HI3.out.cell 0;have i1:w3.cell? ⟨gi,1,none⟩=some (.int .i64 a):=HI3.out.cell 1;have sl:=HS3.out.lt;have il:=HI3.out.lt;go_wp2_with fail
  refine Hgo.out.mono ?_;rintro e w4 ⟨A,c,rfl,hown,hb4⟩;have hgl:=goesL_len ⟨op,a⟩ k;generalize goesL ⟨op,a⟩ k=G at*
  have Hb4:=Lib.hid (Hb3.out.trans (hb4.mono Hb3.out.size));have HX4:=Lib.hid (HX3.out.below hb4 HX3.out.lt);have HS4:=Lib.hid (HS3.out.below hb4 HS3.out.lt);have HP4:=Lib.hid (HP3.out.below hb4);have HO4:=Lib.hid hown;clear s1 i0 i1 sl il HX3 HS3 HP3 HI3 Hw3 Hgi Hgo Hb3 hown hb4;go_wp2_with fail
  go_loopw [7,23] (fun v i wr=>∃(j:Nat) (A2:Option Addr) (T:List Int) (c2:Nat),j≤G.length∧i= .int .i64 j∧v= .slice A2 T.length c2∧OwnI wr w4.heap.size A2 T.length c2 T∧Hid (T=(G.take j).filter fun x=>decide (0≤x)&&decide (x<(g.code.length:Int)))∧Below w4.heap.size w4 wr) (fun _ i _=>G.length-(intOf i).toNat)
  case atStart=>exact ⟨0,none,[],0,Nat.zero_le _,rfl,rfl,Own.nil _ _ _ _,rfl,Below.refl _ _⟩
  rename World=>w5;obtain ⟨j,A2,T,c2,hj,rfl,rfl,hT,HT,hB⟩:=hrel;by_cases hlt:j<G.length
  ·have g1:(j:Int)<(G.length:Int):=by omega
   have hO5:OwnI w5 w3.heap.size A G.length c G:=Own.below HO4.out hB (Nat.le_refl _);obtain ⟨ga,rfl,-,hga⟩:=own_some hO5 (by omega)
   obtain ⟨e0,-,-⟩:=own_at hO5 j (by rw[List.length_map];exact hlt)
   rw[List.getElem_map] at e0;have htk:G.take (j+1)=G.take j++[G[j]]:=take_next G j hlt
   have hTl:T.length≤2:=by
    have h1:=HT.out;rw[h1];exact Nat.le_trans (List.length_filter_le _ _) (by rw[List.length_take];omega)
   generalize G[j]=x at*
   obtain ⟨b,off,hA,hb,q0,q1,q2,q3,hF,hFl⟩:=(HP4.out.below hB).fn Hg.out;have x2:w5.cell? ⟨gx,2,none⟩=some (.slice p.AF p.fs.length p.cF):=(HX4.out.below hB HX4.out.lt).cell 2;have s0:w5.cell? ⟨gs,0,none⟩=some (.int .i64 (F:Int)):=(HS4.out.below hB HS4.out.lt).cell 0;have xl:=(HX4.out.below hB HX4.out.lt).lt;have sl:=(HS4.out.below hB HS4.out.lt).lt;have hFl2:(F:Int)<(p.fs.length:Int):=by omega
   rw[hA] at x2;have Htk:=Lib.hid htk;have HB5:=Lib.hid hB;have HT5:=Lib.hid hT;have hz5:=hB.size;replace e0:w5.cell? ⟨ga,j,none⟩=some (.int .i64 x):=e0
   clear hO5 hF hB hT htk hA q0 q1 q2;by_cases hx:0≤x
   ·have d1:decide (0≤x)=true:=by simpa using hx
    by_cases hx2:x<(g.code.length:Int)
    ·have d2:decide (x<(g.code.length:Int))=true:=by simpa using hx2
     have HT6:=Lib.hid (show T++[x]=(G.take (j+1)).filter (fun x=>decide (0≤x)&&decide (x<(g.code.length:Int))) from by rw[Htk.out,List.filter_append, ←HT.out];simp[hx,hx2])
     have HT7:=HT5;have HB7:=HB5;go_wp2_with (refine wpList_at 44 rfl ?_;refine wp_stop ?_)
     try refine ⟨?_⟩
     refine wpList_push1 rfl (.tmp 41) (.tmp 43) eInt rfl rfl HT7.out rfl rfl (by unfold maxLen;omega) (by omega) (by omega) ?_
     intro A6 c6 w6 hown6 hO6;have hown6':OwnI w6 w4.heap.size A6 (T++[x]).length c6 (T++[x]):=OwnI.push hown6;have HO6:=Lib.hid hown6';have HB6:=Lib.hid (HB7.out.trans (hO6.below (by omega) (fun q hq e=>by have:=(Own.row HT7.out q e).1;omega)))
     clear hown6 hown6' hO6 HT5 HB5 HT7 HB7;go_wp2_with fail
     exact ⟨⟨j+1,A6,T++[x],c6,by omega,by go_num,by rw[List.length_append];rfl,HO6.out,HT6,HB6.out⟩,by simp[intOf];omega⟩
    have d2:decide (x<(g.code.length:Int))=false:=by simpa using hx2
    have HT6:=Lib.hid (show T=(G.take (j+1)).filter (fun x=>decide (0≤x)&&decide (x<(g.code.length:Int))) from by rw[Htk.out,List.filter_append, ←HT.out];simp[hx2])
    go_wp2_with fail
    exact ⟨⟨j+1,A2,T,c2,by omega,by go_num,rfl,HT5.out,HT6,HB5.out⟩,by simp[intOf];omega⟩
   have d1:decide (0≤x)=false:=by simpa using hx
   have HT6:=Lib.hid (show T=(G.take (j+1)).filter (fun x=>decide (0≤x)&&decide (x<(g.code.length:Int))) from by rw[Htk.out,List.filter_append, ←HT.out];simp;intro h;omega)
   go_wp2_with fail
   exact ⟨⟨j+1,A2,T,c2,by omega,by go_num,rfl,HT5.out,HT6,HB5.out⟩,by simp[intOf];omega⟩
  obtain rfl:j=G.length:=by omega
  have hT2:=HT.out;rw[List.take_length] at hT2;have hTR:T=R:=hT2.trans HR.out.symm;subst hTR;have HF:=Lib.hid (show IntsPost w T (.returned (.slice A2 T.length c2)) w5 from ⟨A2,c2,rfl,hT.mono Hb4.out.size,Hb4.out.trans (hB.mono Hb4.out.size)⟩)
  clear HR hT2 hT hB HT;go_wp2_with fail
  go_ret
  exact HF.out
end
end Go.Proofs.Ytcmpmhlcfalbhaa
