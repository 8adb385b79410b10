import Derived.Test.YtcmpmhlcfalbhaaV14
import Derived.Test.YtcmpmhlcfalbhaaV21
import Derived.Maps.GroupsBeside
import Derived.Maps.RangeWalk
namespace Go.Proofs.Ytcmpmhlcfalbhaa
section
def htAt (hs:List (List Int)) (f n:Nat):Int:=(hs.getD f []).getD n (-1)
def Prg.aOf (P:Prg) (f n:Nat):Nat:=match P.ins f n with
 |some i=>i.a.toNat
 |none=>0
def isCall (P:Prg) (hs:List (List Int)) (f n:Nat):Bool:=match P.ins f n with
 |some i=>decide (i.op=17)&&decide (0≤htAt hs f n)
 |none=>false
def callsN (P:Prg) (hs:List (List Int)) (f:Nat):List Nat:=(List.range (P.len f)).filter (isCall P hs f)
def cg (P:Prg) (hs:List (List Int)) (f:Nat):List Nat:=(callsN P hs f).map (P.aOf f)
theorem cg_len (P:Prg) (hs:List (List Int)) (f:Nat):(cg P hs f).length=(callsN P hs f).length:=List.length_map ..
theorem cg_get {P:Prg} {hs:List (List Int)} {f j:Nat} (h:j<(callsN P hs f).length):(cg P hs f)[j]'(by rw[cg_len];exact h)=P.aOf f (callsN P hs f)[j]:=List.getElem_map ..
theorem callsN_is {P:Prg} {hs:List (List Int)} {f n:Nat} (h:n∈callsN P hs f):n<P.len f∧∃i,P.ins f n=some i∧i.op=17∧0≤htAt hs f n∧P.aOf f n=i.a.toNat:=by
 obtain ⟨h1,h2⟩:=List.mem_filter.1 h;refine ⟨List.mem_range.1 h1,?_⟩;unfold isCall at h2;unfold Prg.aOf;cases hi:P.ins f n with
 |none=>rw[hi] at h2;cases h2
 |some i=>
  rw[hi] at h2;dsimp only at h2 ⊢;rw[Bool.and_eq_true,decide_eq_true_eq,decide_eq_true_eq] at h2;exact ⟨i,rfl,h2.1,h2.2,rfl⟩
theorem mem_callsN {P:Prg} {hs:List (List Int)} {f n:Nat} {i:Ins} (hn:n<P.len f) (hi:P.ins f n=some i) (h17:i.op=17) (hh:0≤htAt hs f n):n∈callsN P hs f:=by
 refine List.mem_filter.2 ⟨List.mem_range.2 hn,?_⟩;unfold isCall;rw[hi];dsimp only;rw[decide_eq_true h17,decide_eq_true hh];rfl
theorem countP_mono2 {α β:Type} {p:α→Bool} {q:β→Bool}:∀{a:List α} {b:List β},a.length=b.length→(∀(i:Nat) x y,a[i]?=some x→b[i]?=some y→p x=true→q y=true)→a.countP p≤b.countP q
 |[],[],_,_=>Nat.le_refl _
 |[],_::_,h,_=>by cases h
 |_::_,[],h,_=>by cases h
 |x::a,y::b,h,k=>by
  rw[List.countP_cons,List.countP_cons];have h1:=countP_mono2 (p:=p) (q:=q) (a:=a) (b:=b) (by simpa using h) fun i u v hu hv=>k (i+1) u v (by simpa using hu) (by simpa using hv)
  have h2:=k 0 x y rfl rfl;cases hp:p x with
  |false=>simp;omega
  |true=>rw[h2 hp];simp;omega
def falses (a:List Bool):Nat:=a.countP fun x=> !x
theorem falses_set {a:List Bool} {f:Nat} (h:a[f]?=some false):falses (a.set f true)+1=falses a:=by
 have:=countP_set (fun x=> !x) a f false true h;simpa [falses] using this
structure LiveP (cg:Nat→List Nat) (f:Nat) (a b:List Bool):Prop where
 len:b.length=a.length
 mono:∀v:Nat,a[v]?=some true→b[v]?=some true
 self:b[f]?=some true
 new:∀v:Nat,b[v]?=some true→a[v]?=some true∨(Reach cg f v∧∀u∈cg v,b[u]?=some true)
structure LiveI (cg:Nat→List Nat) (f:Nat) (a:List Bool) (j:Nat) (b:List Bool):Prop where
 len:b.length=a.length
 mono:∀v:Nat,a[v]?=some true→b[v]?=some true
 self:b[f]?=some true
 fs:falses b<falses a
 done:∀u∈(cg f).take j,b[u]?=some true
 new:∀v:Nat,b[v]?=some true→v=f∨a[v]?=some true∨(Reach cg f v∧∀u∈cg v,b[u]?=some true)
section
variable {cg:Nat→List Nat} {f:Nat} {a b c:List Bool}
theorem LiveP.falses (h:LiveP cg f a b):falses b≤falses a:=by
 refine countP_mono2 h.len fun i x y hx hy hp=>?_;cases y with
 |false=>rfl
 |true=>rw[h.mono i hy] at hx;injection hx with hx;subst hx;cases hp
theorem LiveP.was (h:a[f]?=some true):LiveP cg f a a:=⟨rfl,fun _ h=>h,h,fun _ h=> .inl h⟩
theorem LiveI.start (h:a[f]?=some false):LiveI cg f a 0 (a.set f true):=by
 have hl:=(List.getElem?_eq_some_iff.1 h).1;refine ⟨List.length_set ..,fun v hv=>?_,List.getElem?_set_self hl,by have:=falses_set h;omega,fun u hu=>(by rw[List.take_zero] at hu;cases hu),fun v hv=>?_⟩
 ·have hne:f≠v:=fun e=>by subst e;rw[h] at hv;cases hv
  rw[List.getElem?_set_ne hne];exact hv
 rcases set_get hv with ⟨e,-⟩|⟨-,hv⟩
 ·exact .inl e
 exact .inr (.inl hv)
theorem LiveI.step {j:Nat} (h:LiveI cg f a j b) (hj:j<(cg f).length) (k:LiveP cg (cg f)[j] b c):LiveI cg f a (j+1) c:=by
 refine ⟨k.len.trans h.len,fun v hv=>k.mono v (h.mono v hv),k.mono f h.self,by have:=k.falses;have:=h.fs;omega,fun u hu=>?_,fun v hv=>?_⟩
 ·rw[take_next _ _ hj] at hu;rcases List.mem_append.1 hu with hu|hu
  ·exact k.mono u (h.done u hu)
  rw[List.mem_singleton.1 hu];exact k.self
 rcases k.new v hv with h1|⟨h1,h2⟩
 ·rcases h.new v h1 with h2|h2|⟨h2,h3⟩
  ·exact .inl h2
  ·exact .inr (.inl h2)
  exact .inr (.inr ⟨h2,fun u hu=>k.mono u (h3 u hu)⟩)
 exact .inr (.inr ⟨.step (List.getElem_mem hj) h1,h2⟩)
theorem LiveI.fin (h:LiveI cg f a (cg f).length b):LiveP cg f a b:=by
 have hd:=h.done;rw[List.take_length] at hd;refine ⟨h.len,h.mono,h.self,fun v hv=>?_⟩;rcases h.new v hv with rfl|h1|h1
 ·exact .inr ⟨.refl v,hd⟩
 ·exact .inl h1
 exact .inr h1
theorem LiveP.all {n:Nat} (h:LiveP cg 0 (List.replicate n false) b) (v:Nat):b[v]?=some true↔Reach cg 0 v:=by
 have hn:∀u:Nat,b[u]?=some true→Reach cg 0 u∧∀t∈cg u,b[t]?=some true:=fun u hu=>by
  rcases h.new u hu with h1|h1
  ·have:=List.eq_of_mem_replicate (List.mem_of_getElem? h1);cases this
  exact h1
 refine ⟨fun hv=>(hn v hv).1,fun hr=>?_⟩
 have key:∀{x y:Nat},Reach cg x y→b[x]?=some true→b[y]?=some true:=by
  intro x y hr;induction hr with
  |refl=>exact fun h=>h
  |step h1 _ ih=>exact fun h=>ih ((hn _ h).2 _ h1)
 exact key hr h.self
end
structure AgI (cg:Nat→List Nat) (u:List Int):Prop where
 col:∀(v:Nat) x,u[v]?=some x→x=0∨x=1∨x=2
 two:∀v:Nat,u[v]?=some 2→(∀t∈cg v,u[t]?=some 2)∧¬ Cyc cg v
structure AgP (cg:Nat→List Nat) (f:Nat) (a b:List Int):Prop where
 len:b.length=a.length
 inv:AgI cg b
 one:∀v:Nat,b[v]?=some 1↔a[v]?=some 1
 mono:∀v:Nat,a[v]?=some 2→b[v]?=some 2
 self:b[f]?=some 2
structure AgL (cg:Nat→List Nat) (f:Nat) (a:List Int) (j:Nat) (b:List Int):Prop where
 len:b.length=a.length
 inv:AgI cg b
 one:∀v:Nat,b[v]?=some 1↔v=f∨a[v]?=some 1
 mono:∀v:Nat,a[v]?=some 2→b[v]?=some 2
 done:∀t∈(cg f).take j,b[t]?=some 2
 was:a[f]?=some 0
 zs:b.countP (·=0)<a.countP (·=0)
def Ahead (cg:Nat→List Nat) (f:Nat) (a:List Int):Prop:=∀v:Nat,a[v]?=some 1→∃t∈cg v,Reach cg t f
section
variable {cg:Nat→List Nat} {f:Nat} {a b c:List Int}
theorem AgP.zeros (ha:AgI cg a) (h:AgP cg f a b):b.countP (·=0)≤a.countP (·=0):=by
 refine countP_mono2 h.len fun i x y hx hy hp=>?_;have hx0:x=0:=by simpa using hp
 subst hx0;rcases ha.col i y hy with rfl|rfl|rfl
 ·rfl
 ·rw[(h.one i).2 hy] at hx;cases hx
 rw[h.mono i hy] at hx;cases hx
theorem AgP.was (ha:AgI cg a) (h:a[f]?=some 2):AgP cg f a a:=⟨rfl,ha,fun _=>Iff.rfl,fun _ h=>h,h⟩
theorem Ahead.cyc (h:Ahead cg f a) (h1:a[f]?=some 1):Cyc cg f:=h f h1
theorem AgL.start (ha:AgI cg a) (h:a[f]?=some 0):AgL cg f a 0 (a.set f 1):=by
 have hl:=(List.getElem?_eq_some_iff.1 h).1;have hs:(a.set f 1)[f]?=some 1:=List.getElem?_set_self hl;have hne:∀{v:Nat},a[v]?=some 2→f≠v:=fun hv e=>by subst e;rw[h] at hv;cases hv
 refine ⟨List.length_set ..,⟨fun v x hx=>?_,fun v hv=>?_⟩,fun v=>?_,fun v hv=>?_,fun u hu=>(by rw[List.take_zero] at hu;cases hu),h,?_⟩
 ·rcases set_get hx with ⟨-,rfl⟩|⟨-,hx⟩
  ·exact .inr (.inl rfl)
  exact ha.col v x hx
 ·rcases set_get hv with ⟨-,e⟩|⟨-,hv⟩
  ·cases e
  obtain ⟨h1,h2⟩:=ha.two v hv;exact ⟨fun t ht=>by rw[List.getElem?_set_ne (hne (h1 t ht))];exact h1 t ht,h2⟩
 ·by_cases e:v=f
  ·subst e;exact ⟨fun _=> .inl rfl,fun _=>hs⟩
  rw[List.getElem?_set_ne (Ne.symm e)];exact ⟨fun h=> .inr h,fun h=>h.resolve_left e⟩
 ·rw[List.getElem?_set_ne (hne hv)];exact hv
 have:=countP_set (·=(0:Int)) a f 0 1 h;simp at this;omega
theorem AgL.ahead {j:Nat} (h:AgL cg f a j b) (hA:Ahead cg f a) (hj:j<(cg f).length):Ahead cg (cg f)[j] b:=fun v hv=>by
 rcases (h.one v).1 hv with rfl|h1
 ·exact ⟨_,List.getElem_mem hj,.refl _⟩
 obtain ⟨t,h2,h3⟩:=hA v h1;exact ⟨t,h2,h3.trans (.one (List.getElem_mem hj))⟩
theorem AgL.step {j:Nat} (h:AgL cg f a j b) (hj:j<(cg f).length) (k:AgP cg (cg f)[j] b c):AgL cg f a (j+1) c:=by
 refine ⟨k.len.trans h.len,k.inv,fun v=>(k.one v).trans (h.one v),fun v hv=>k.mono v (h.mono v hv),fun u hu=>?_,h.was,by have:=k.zeros h.inv;have:=h.zs;omega⟩
 rw[take_next _ _ hj] at hu;rcases List.mem_append.1 hu with hu|hu
 ·exact k.mono u (h.done u hu)
 rw[List.mem_singleton.1 hu];exact k.self
theorem AgL.fin (h:AgL cg f a (cg f).length b):AgP cg f a (b.set f 2):=by
 have hd:=h.done;rw[List.take_length] at hd;have hf1:b[f]?=some 1:=(h.one f).2 (.inl rfl);have hl:=(List.getElem?_eq_some_iff.1 hf1).1;have hs:(b.set f 2)[f]?=some 2:=List.getElem?_set_self hl;have hne:∀{v:Nat},b[v]?=some 2→f≠v:=fun hv e=>by subst e;rw[hf1] at hv;cases hv
 have hc2:∀{x y:Nat},Reach cg x y→b[x]?=some 2→b[y]?=some 2:=by
  intro x y hr;induction hr with
  |refl=>exact fun h=>h
  |step h1 _ ih=>exact fun hx=>ih ((h.inv.two _ hx).1 _ h1)
 refine ⟨(List.length_set ..).trans h.len,⟨fun v x hx=>?_,fun v hv=>?_⟩,fun v=>?_,fun v hv=>?_,hs⟩
 ·rcases set_get hx with ⟨-,rfl⟩|⟨-,hx⟩
  ·exact .inr (.inr rfl)
  exact h.inv.col v x hx
 ·rcases set_get hv with ⟨rfl,-⟩|⟨-,hv⟩
  ·refine ⟨fun t ht=>by rw[List.getElem?_set_ne (hne (hd t ht))];exact hd t ht,?_⟩
   rintro ⟨t,ht,hr⟩;exact hne (hc2 hr (hd t ht)) rfl
  obtain ⟨h1,h2⟩:=h.inv.two v hv;exact ⟨fun t ht=>by rw[List.getElem?_set_ne (hne (h1 t ht))];exact h1 t ht,h2⟩
 ·by_cases e:v=f
  ·subst e;rw[hs,h.was];exact ⟨fun h=>(by cases h),fun h=>(by cases h)⟩
  rw[List.getElem?_set_ne (Ne.symm e),h.one v];exact ⟨fun h=>h.resolve_left e,fun h=> .inr h⟩
 rw[List.getElem?_set_ne (hne (h.mono v hv))];exact h.mono v hv
theorem AgI.start (n:Nat):AgI cg (List.replicate n 0):=by
 refine ⟨fun v x hx=> .inl (List.eq_of_mem_replicate (List.mem_of_getElem? hx)),fun v hv=>?_⟩;have:=List.eq_of_mem_replicate (List.mem_of_getElem? hv);cases this
end
open Classical in
noncomputable def rk (nx:Nat→List Nat) (n v:Nat):Nat:=(List.range n).countP fun u=>decide (Reach nx v u)
theorem countP_lt {α:Type} {p q:α→Bool}:∀{l:List α} {x:α},x∈l→p x=false→q x=true→(∀y∈l,p y=true→q y=true)→l.countP p<l.countP q
 |a::l,x,hx,h1,h2,h3=>by
  have hle:l.countP p≤l.countP q:=List.countP_mono_left fun y hy=>h3 y (List.mem_cons_of_mem _ hy);rw[List.countP_cons,List.countP_cons];rcases List.mem_cons.1 hx with rfl|hx
  ·rw[h1,h2];simp;omega
  have ih:=countP_lt hx h1 h2 fun y hy=>h3 y (List.mem_cons_of_mem _ hy);cases hp:p a with
  |false=>simp;omega
  |true=>rw[h3 a (List.mem_cons_self ..) hp];simp;omega
open Classical in
theorem rk_lt {nx:Nat→List Nat} {n v u:Nat} (hv:v<n) (hu:u∈nx v) (hc: ¬ Cyc nx v):rk nx n u<rk nx n v:=by
 unfold rk;refine countP_lt (List.mem_range.2 hv) ?_ ?_ fun y _ hy=>?_
 ·exact decide_eq_false fun h=>hc ⟨u,hu,h⟩
 ·exact decide_eq_true (.refl v)
 exact decide_eq_true (.step hu (of_decide_eq_true hy))
theorem rk_le (nx:Nat→List Nat) (n v:Nat):rk nx n v≤n:=by
 unfold rk;have:=List.countP_le_length (p:=fun u=>@decide (Reach nx v u) (Classical.propDecidable _)) (l:=List.range n);rw[List.length_range] at this;exact this
end
section
open Go.RowKit
def SameOn (lo hi:Nat) (w w':World):Prop:=∀g,lo≤g→g<hi→w'.heap[g]?=w.heap[g]?
structure CallsAt (lo hi:Nat) (w:World) (bm:Nat) (L:Nat→List Int):Prop where
 size:hi≤w.heap.size
 get:∀w',SameOn lo hi w w'→hi≤w'.heap.size→∀f:Nat,f<64→∃A c,(Instr.lookup 81 (.map (some bm)) (.int .i64 (f:Int)) false).run Try.prog w'= .ok (.slice A (L f).length c) w'∧
  RV w' A ((L f).map iv)∧∀b o,A=some ⟨b,o,none⟩→lo≤b∧b<hi
theorem CallsAt.same {lo hi:Nat} {w w':World} {bm:Nat} {L:Nat→List Int} (h:CallsAt lo hi w bm L) (hs:SameOn lo hi w w') (hz:hi≤w'.heap.size):CallsAt lo hi w' bm L:=
 ⟨hz,fun w2 h2 hz2=>h.get w2 (fun g h3 h4=>(h2 g h3 h4).trans (hs g h3 h4)) hz2⟩
theorem SameOn.only {lo hi:Nat} {S:Nat→Prop} {w w':World} (ho:Only S w w') (hz:hi≤w.heap.size) (h:∀k,lo≤k→k<hi→¬ S k):SameOn lo hi w w':=fun g h1 h2=>ho.block g (by omega) (h g h1 h2)
def callsI (P:Prg) (hs:List (List Int)) (f:Nat):List Int:=(callsN P hs f).map fun (n:Nat)=>(n:Int)
theorem callsI_len (P:Prg) (hs:List (List Int)) (f:Nat):(callsI P hs f).length=(callsN P hs f).length:=List.length_map ..
structure WhC (w0 w:World) (p:PrgM) (hs:List (List Int)) (bw bx bm lo hi:Nat):Prop where
 prg:PrgAt w0 p
 below:Below w0.heap.size w0 w
 calls:CallsAt lo hi w bm (callsI p.plain hs)
 blkW:Blk w bw 83 #[.int .i64 p.mem,.slice p.AD p.data.length p.cD,.slice p.AF p.fs.length p.cF,.pointer (some ⟨bx,0,none⟩),.map (some bm)]
theorem WhC.only {w0 w w':World} {p:PrgM} {hs:List (List Int)} {bw bx bm lo hi:Nat} {S:Nat→Prop} (h:WhC w0 w p hs bw bx bm lo hi) (ho:Only S w w')
  (h1:∀k,S k→w0.heap.size≤k) (h2:∀k,lo≤k→k<hi→¬ S k) (h3: ¬ S bw):WhC w0 w' p hs bw bx bm lo hi:=
 ⟨h.prg,h.below.trans (ho.below (B:=w0.heap.size) h.below.size fun k hk hS=>by have:=h1 k hS;omega),h.calls.same (SameOn.only ho h.calls.size h2) (Nat.le_trans h.calls.size ho.size),h.blkW.only ho h3⟩
theorem WhC.prgAt {w0 w:World} {p:PrgM} {hs:List (List Int)} {bw bx bm lo hi:Nat} (h:WhC w0 w p hs bw bx bm lo hi):PrgAt w p:=h.prg.below h.below
theorem RV.same {lo hi:Nat} {w w':World} {A:Option Addr} {vs:List Value} (h:RV w A vs) (hl:∀b o,A=some ⟨b,o,none⟩→lo≤b∧b<hi) (hs:SameOn lo hi w w') (hz:hi≤w'.heap.size):RV w' A vs:=by
 rcases h with h|⟨b,off,hA,hb,hc⟩
 ·exact .inl h
 obtain ⟨h1,h2⟩:=hl b off hA;exact .inr ⟨b,off,hA,by omega,fun j u hu=>(World.cell?_of_block (w:=w) (a:=⟨b,off+j,none⟩) (hs b h1 h2)).trans (hc j u hu)⟩
end
section
open Go.RowKit
structure WSep (w0:World) (bw bx lo hi g:Nat):Prop where
 l:w0.heap.size≤g
 w:g≠bw
 x:g≠bx
 r:∀k,lo≤k→k<hi→k≠g
theorem WhC.one {w0 w w':World} {p:PrgM} {hs:List (List Int)} {bw bx bm lo hi g:Nat} (h:WhC w0 w p hs bw bx bm lo hi) (hS:WSep w0 bw bx lo hi g) (ho:Only (fun k=>k=g) w w'):WhC w0 w' p hs bw bx bm lo hi:=
 h.only ho (fun k e=>by rw[e];exact hS.l) (fun k h1 h2 e=>hS.r k h1 h2 e) (fun e=>hS.w e.symm)
theorem callsI_get {P:Prg} {hs:List (List Int)} {f j:Nat} (h:j<(callsN P hs f).length):((callsI P hs f).map iv)[j]?=some (.int .i64 ((callsN P hs f)[j]:Int)):=by
 unfold callsI;rw[List.getElem?_map,List.getElem?_map,List.getElem?_eq_getElem h];rfl
theorem good_call {P:Prg} (h:Good P) {hs:List (List Int)} {f n:Nat} (hn:n∈callsN P hs f):∃i,P.ins f n=some i∧i.op=17∧i.a=(P.aOf f n:Int)∧P.aOf f n<P.fs.length∧n<P.len f:=by
 obtain ⟨hl,i,hi,h17,-,ha⟩:=callsN_is hn;obtain ⟨g,hg,hgi⟩:=Prg.fn_of hi;have hgm:=List.mem_of_getElem? hg;have hb:=firstP_none h.ops g hgm i (List.mem_of_getElem? hgi);have hgood:=good_ins h.chk hgm (List.mem_of_getElem? hgi)
 have h0:0≤i.a:=by
  obtain ⟨op,a⟩:=i;dsimp only at h17;subst h17;obtain ⟨-,hmay⟩:=hgood;obtain ⟨-,-,-,k17,-⟩:=kinds_of;unfold mayB at hmay;simp only[k17] at hmay;exact (by simpa using hmay:0≤a∧_).1
 have h1:i.a<(P.fs.length:Int):=by
  unfold badOp at hb;rw[if_neg (by omega),if_neg (by omega),if_pos h17] at hb
  split at hb<;>omega
 exact ⟨i,hi,h17,by rw[ha];omega,by rw[ha];omega,hl⟩
theorem callsN_len (P:Prg) (hs:List (List Int)) (f:Nat):(callsN P hs f).length≤P.len f:=by
 unfold callsN;have:=List.length_filter_le (isCall P hs f) (List.range (P.len f));rw[List.length_range] at this;exact this
theorem good_len {P:Prg} (h:Good P) (f:Nat):P.len f≤4096:=by
 unfold Prg.len;rw[Int.toNat_natCast];cases hg:P.fs[f]? with
 |none=>simp
 |some g=>have:=(good_fn h.chk (List.mem_of_getElem? hg)).c1;simpa using this
set_option maxRecDepth 100000 in
set_option maxHeartbeats 4000000 in
theorem live_any {p:PrgM} {hs:List (List Int)} {w0:World} {bw bx bm lo hi gL n:Nat} {vH vT vL ce co:Value} (hg:Good p.plain) (hn:p.fs.length=n) (hS:WSep w0 bw bx lo hi gL):
  ∀(k f:Nat) (a:List Bool) (w:World),falses a<k→f<n→a.length=n→WhC w0 w p hs bw bx bm lo hi→Blk w bx 32 #[vH,vT,vL,.slice (some ⟨gL,0,none⟩) n n,ce,co]→OwnL w 0 (some ⟨gL,0,none⟩) n n a→
   Calls Try.prog 65 #[.pointer (some ⟨bw,0,none⟩),.int .i64 (f:Int)] w fun e w'=>e= .returned (.tuple #[])∧∃b,LiveP (cg p.plain hs) f a b∧OwnL w' 0 (some ⟨gL,0,none⟩) n n b∧Only (fun g=>g=gL) w w':=by
 intro k
 induction k with
 |zero=>intro f a w hk;omega
 |succ k ih=>
  intro f a w hk hf hal hC hX hO;have hn64:n≤64:=by have:=(good_many hg.chk).2;rw[←hn];simpa [PrgM.plain] using this
  obtain ⟨v,hv⟩:∃v,a[f]?=some v:=⟨_,List.getElem?_eq_getElem (by omega)⟩
  have y3:w.cell? ⟨bw,3,none⟩=some (.pointer (some ⟨bx,0,none⟩)):=hC.blkW.cell 3;have x3:w.cell? ⟨bx,3,none⟩=some (.slice (some ⟨gL,0,none⟩) n n):=hX.cell 3;have wl:=hC.blkW.lt;have xl:=hX.lt;have c0:=hO.at_ f (by omega)
  rw[show a[f]'(by omega)=v from by rw[List.getElem?_eq_getElem (by omega)] at hv;exact Option.some.inj hv] at c0
  obtain ⟨cf,cl⟩:=OwnL.room hO f (by omega)
  have hf2:(f:Int)<(n:Int):=by omega
  have HC:=Lib.hid hC;have HX:=Lib.hid hX;have HO:=Lib.hid hO;have Hv:=Lib.hid hv;clear hC hX hO hv;cases v with
  |true=>
   go_enter Try.func65,Try.ntmps65
   go_wp2_with fail
   refine bodyPost_ret (v:=.tuple #[]) (results_none rfl _ _ _) rfl ⟨rfl,a,LiveP.was Hv.out,HO.out,Only.refl _ _⟩
  |false=>
   obtain ⟨w1,hw1⟩:∃w1,w1=w.setCell ⟨gL,f,none⟩ (.bool true):=⟨_,rfl⟩;have hO1:Only (fun g=>g=gL) w w1:=by rw[hw1];exact (Only.refl (fun g=>g=gL) w).setCell (p:=⟨gL,f,none⟩) (.inl rfl) _
   have hC1:=HC.out.one hS hO1;obtain ⟨A,c,hlk,hrow,hrng⟩:=hC1.calls.get w1 (fun _ _ _=>rfl) hC1.calls.size f (by omega)
   rw[callsI_len] at hlk;have y4:w.cell? ⟨bw,4,none⟩=some (.map (some bm)):=HC.out.blkW.cell 4;have hne1: ¬ bw=gL:=fun e=>hS.w e.symm;have hne2: ¬ gL=bw:=hS.w;obtain ⟨m,hm⟩:∃m,m=(callsN p.plain hs f).length:=⟨_,rfl⟩;rw[←hm] at hlk;have hm4:m≤4096:=by have:=callsN_len p.plain hs f;have:=good_len hg f;omega
   have Hm:=Lib.hid hm;have Hrng:=Lib.hid hrng;have Hw1:=Lib.hid hw1;rw[hw1] at hlk;have Hrow:=Lib.hid hrow;have HC1:=Lib.hid hC1;have HOn1:=Lib.hid hO1;have HL1:=Lib.hid (show OwnL w1 0 (some ⟨gL,0,none⟩) n n (a.set f true) from by rw[hw1];exact HO.out.put f true)
   clear hrow hC1 hO1 hrng hm hw1;go_enter Try.func65,Try.ntmps65
   go_wp2_with fail
   rw[←Hw1.out];go_loopw [32] (fun i wr=>∃j:Nat,∃b,j≤m∧i= .int .i64 (j:Int)∧LiveI (cg p.plain hs) f a j b∧OwnL wr 0 (some ⟨gL,0,none⟩) n n b∧Only (fun g=>g=gL) w1 wr) (fun i _=>m-(intOf i).toNat)
   case atStart=>exact ⟨0,_,Nat.zero_le _,rfl,LiveI.start Hv.out,HL1.out,Only.refl _ _⟩
   rename World=>wr;obtain ⟨j,b,hj,rfl,hI,hL,hB⟩:=hrel;have hCr:=HC1.out.one hS hB;have HCr:=Lib.hid hCr;have HI:=Lib.hid hI;have HL:=Lib.hid hL;have HB:=Lib.hid hB;by_cases hlt:j<m
   ·have g2:(j:Int)<(m:Int):=by omega
    have hjn:j<(callsN p.plain hs f).length:=by rw[←Hm.out];exact hlt
    obtain ⟨N,hN⟩:∃N,N=(callsN p.plain hs f)[j]:=⟨_,rfl⟩;obtain ⟨i,hi,h17,hia,hal2,hNl⟩:=good_call hg (hs:=hs) (f:=f) (n:=N) (by rw[hN];exact List.getElem_mem hjn)
    obtain ⟨G,hG⟩:∃G,G=p.plain.aOf f N:=⟨_,rfl⟩;rw[←hG] at hia hal2;have hGn:G<n:=by rw[←hn];simpa [PrgM.plain] using hal2
    have hcg:∃h,(cg p.plain hs f)[j]'h=G:=⟨by rw[cg_len];exact hjn,by rw[cg_get hjn, ←hN,hG]⟩
    have hrow2:=RV.same Hrow.out Hrng.out (SameOn.only hB HC1.out.calls.size fun k h1 h2=>hS.r k h1 h2) HCr.out.calls.size;obtain ⟨rb,ro,rfl,hrl,hrc⟩:=hrow2.at_ (by rw[List.length_map,callsI_len];omega)
    have r0:=hrc j _ (callsI_get hjn);rw[←hN] at r0;have y0:wr.cell? ⟨bw,0,none⟩=some (.int .i64 p.mem):=hCr.blkW.cell 0;have hP:=hCr.prgAt;obtain ⟨g,hgf⟩:∃g,p.fs[f]?=some g:=⟨_,List.getElem?_eq_getElem (by omega)⟩
    obtain ⟨b0,off,hA,hb,q0,q1,q2,q3,hF,hFl⟩:=hP.fn hgf;have y2:wr.cell? ⟨bw,2,none⟩=some (.slice (some ⟨b0,off,none⟩) p.fs.length p.cF):=by rw[←hA];exact hCr.blkW.cell 2
    have wlr:=hCr.blkW.lt;have hi2:g.code[N]?=some i:=by rw[p.ins_plain,hgf,Option.bind_some] at hi;exact hi
    obtain ⟨b1,off1,hA1,hb1,s0,s1,hiok,hNg⟩:=hF.ins hi2;rw[hA1] at q3;rw[hia] at s1;have g3:(f:Int)<(p.fs.length:Int):=by omega
    have g4:(N:Int)<(g.code.length:Int):=by omega
    have HK:=Lib.hid (ih G b wr (by have:=hI.fs;omega) hGn (hI.len.trans ‹_›) hCr (HX.out.only (HOn1.out.trans hB) fun e=>hS.x e.symm) hL)
    have Hcg:=Lib.hid hcg;clear hrow2 hrc hA hA1 hF hiok hi hi2 hgf hP hCr hI hL hB hcg hN hG;go_wp2_with fail
    refine HK.out.mono ?_;rintro e w2 ⟨rfl,b2,hP2,hL2,hO2⟩;have HP2:=Lib.hid hP2;have HL2:=Lib.hid hL2;have HO2:=Lib.hid hO2;clear hP2 hL2 hO2;go_wp2_with fail
    refine ⟨⟨j+1,b2,by omega,rfl,?_,HL2.out,HB.out.trans HO2.out⟩,?_⟩
    ·obtain ⟨h1,h2⟩:=Hcg.out;exact HI.out.step h1 (by rw[h2];exact HP2.out)
    simp[intOf];omega
   obtain rfl:j=m:=by omega
   go_wp2_with fail
   refine bodyPost_end (v:=.tuple #[]) (results_none rfl _ _ _) rfl ⟨rfl,b,?_,HL.out,HOn1.out.trans HB.out⟩;have h:=HI.out;rw[Hm.out, ←cg_len] at h;exact h.fin
end
section
structure WhF (P:Prg) (hs:List (List Int)) (tops:List Int):Prop where
 lh:hs.length=P.fs.length
 row:∀f:Nat,f<P.fs.length→(hs.getD f []).length=P.len f
 b:∀f n:Nat,-1≤htAt hs f n∧htAt hs f n≤256
 lt:tops.length=P.fs.length
 tb:∀x∈tops,0≤x∧x≤300
def cellsTo (P:Prg) (hs:List (List Int)) (tops:List Int) (c:Nat→Int) (f j:Nat):Int:=
 ((callsN P hs f).take j).foldl (fun m n=>max m (htAt hs f n-P.args (P.aOf f n)+c (P.aOf f n))) (tops.getD f 0)
def CellsEq (P:Prg) (hs:List (List Int)) (tops:List Int) (c:Nat→Int):Prop:=
 ∀f,f<P.fs.length→Reach (cg P hs) 0 f→c f=1+P.locals f+cellsTo P hs tops c f (callsN P hs f).length
def Acyc (P:Prg) (hs:List (List Int)):Prop:=∀v,Reach (cg P hs) 0 v→¬ Cyc (cg P hs) v
theorem cellsTo_zero {P:Prg} {hs:List (List Int)} {tops:List Int} {c:Nat→Int} {f:Nat}:cellsTo P hs tops c f 0=tops.getD f 0:=rfl
theorem cellsTo_next {P:Prg} {hs:List (List Int)} {tops:List Int} {c:Nat→Int} {f j:Nat} (h:j<(callsN P hs f).length):
  cellsTo P hs tops c f (j+1)=max (cellsTo P hs tops c f j) (htAt hs f (callsN P hs f)[j]-P.args (P.aOf f (callsN P hs f)[j])+c (P.aOf f (callsN P hs f)[j])):=by
 unfold cellsTo
 rw[take_next _ _ h,List.foldl_append]
 rfl
theorem exists_fix {nx:Nat→List Nat} {N:Nat} {ok:Nat→Prop} (hok:∀v,ok v→v<N∧¬ Cyc nx v) (F:Nat→(Nat→Int)→Int)
  (hF:∀v g h,(∀u∈nx v,g u=h u)→F v g=F v h):∃c:Nat→Int,∀v,ok v→c v=F v c:=by
 classical
 let c:Nat→Int:=(measure fun v=>rk nx N v).wf.fix fun v rec=>F v fun u=>if h:rk nx N u<rk nx N v then rec u h else 0
 refine ⟨c,fun v hv=>?_⟩
 have e:c v=F v fun u=>if rk nx N u<rk nx N v then c u else 0:=by
  show WellFounded.fix _ _ v=_
  rw[WellFounded.fix_eq];rfl
 rw[e]
 refine hF v _ _ fun u hu=>?_
 rw[if_pos (rk_lt (hok v hv).1 hu (hok v hv).2)]
theorem cg_lt {P:Prg} (h:Good P) {hs:List (List Int)} {f u:Nat} (hu:u∈cg P hs f):u<P.fs.length:=by
 obtain ⟨n,hn,rfl⟩:=List.mem_map.1 hu;obtain ⟨-,-,-,-,h1,-⟩:=good_call h hn;exact h1
theorem reach_lt {P:Prg} (h:Good P) {hs:List (List Int)} {f:Nat} (hr:Reach (cg P hs) 0 f):f<P.fs.length:=by
 have key:∀{a b:Nat},Reach (cg P hs) a b→a<P.fs.length→b<P.fs.length:=by
  intro a b hr;induction hr with
  |refl=>exact fun h=>h
  |step h1 _ ih=>exact fun _=>ih (cg_lt h h1)
 exact key hr (by have:=(good_many h.chk).1;omega)
theorem cells_exist {P:Prg} (h:Good P) {hs:List (List Int)} (tops:List Int) (ha:Acyc P hs):∃c,CellsEq P hs tops c:=by
 obtain ⟨c,hc⟩:=exists_fix (nx:=cg P hs) (N:=P.fs.length) (ok:=Reach (cg P hs) 0) (fun v hv=>⟨reach_lt h hv,ha v hv⟩) (fun f c=>1+P.locals f+cellsTo P hs tops c f (callsN P hs f).length) (fun v g k he=>by
  have key:∀(l:List Nat) (x:Int),(∀n∈l,n∈callsN P hs v)→l.foldl (fun m n=>max m (htAt hs v n-P.args (P.aOf v n)+g (P.aOf v n))) x=l.foldl (fun m n=>max m (htAt hs v n-P.args (P.aOf v n)+k (P.aOf v n))) x:=by
   intro l;induction l with
   |nil=>intro x _;rfl
   |cons a l ih=>
    intro x hl;rw[List.foldl_cons,List.foldl_cons,he _ (List.mem_map.2 ⟨a,hl a (List.mem_cons_self ..),rfl⟩)];exact ih _ fun n hn=>hl n (List.mem_cons_of_mem _ hn)
  unfold cellsTo;rw[key _ _ fun n hn=>List.mem_of_mem_take hn])
 exact ⟨c,fun f _ hf=>hc f hf⟩
theorem cellsTo_le {P:Prg} (h:Good P) {hs:List (List Int)} {tops:List Int} (hw:WhF P hs tops) {c:Nat→Int} {f:Nat} {B:Int} (hB:0≤B) (hc:∀u∈cg P hs f,0≤c u∧c u≤B) (j:Nat) (hj:j≤(callsN P hs f).length):
  0≤cellsTo P hs tops c f j∧cellsTo P hs tops c f j≤B+300:=by
 induction j with
 |zero=>
  rw[cellsTo_zero,List.getD_eq_getElem?_getD];cases ht:tops[f]? with
  |none=>simp;omega
  |some x=>have:=hw.tb x (List.mem_of_getElem? ht);simp;omega
 |succ j ih=>
  have ih:=ih (by omega)
  rw[cellsTo_next (by omega)]
  have hm:=List.getElem_mem (l:=callsN P hs f) (show j<_ by omega)
  have h1:=hc _ (List.mem_map.2 ⟨_,hm,rfl⟩);have h2:=hw.b f (callsN P hs f)[j];obtain ⟨i,-,-,-,h3,-⟩:=good_call h hm
  have h4:0≤P.args (P.aOf f (callsN P hs f)[j]):=by
   rw[Prg.args_of (List.getElem?_eq_getElem h3)];exact (good_fn h.chk (List.getElem_mem h3)).a0
  omega
theorem cells_bound {P:Prg} (h:Good P) {hs:List (List Int)} {tops:List Int} (hw:WhF P hs tops) (ha:Acyc P hs) {c:Nat→Int} (hc:CellsEq P hs tops c):
  ∀(k f:Nat),rk (cg P hs) P.fs.length f<k→Reach (cg P hs) 0 f→0≤c f∧c f≤400*(k:Int):=by
 intro k
 induction k with
 |zero=>intro f hk;omega
 |succ k ih=>
  intro f hk hr;have hf:=reach_lt h hr;have h1:=cellsTo_le h hw (c:=c) (f:=f) (B:=400*(k:Int)) (by omega) (fun u hu=>ih u (by have:=rk_lt hf hu (ha f hr);omega) (hr.trans (.one hu))) _ (Nat.le_refl _)
  have h2:=good_fn h.chk (List.getElem_mem hf);have h3:P.locals f=P.fs[f].locals:=Prg.locals_of (List.getElem?_eq_getElem hf);have h4:=h2.l0;have h5:=h2.l1;have h6:=h2.a0;rw[hc f hf hr,h3];omega
theorem cells_small {P:Prg} (h:Good P) {hs:List (List Int)} {tops:List Int} (hw:WhF P hs tops) (ha:Acyc P hs) {c:Nat→Int} (hc:CellsEq P hs tops c) {f:Nat} (hr:Reach (cg P hs) 0 f):0≤c f∧c f≤26000:=by
 have h1:=cells_bound h hw ha hc 65 f (by have:=rk_le (cg P hs) P.fs.length f;have:=(good_many h.chk).2;omega) hr
 omega
end
section
open Go.RowKit
abbrev mapII:TypeId:=119
abbrev kl (x:Int):Lit:=.int .i64 x
abbrev DM:=DataW Unit
def OwnsM (w:World) (bk m:Nat) (D:DM):Prop:=w.ownsMap Try.prog 3 (plainElem Try.prog 3) bk m D
theorem keyedI:Maps.Keyed Try.prog 3:=Maps.int_keyed Try.underlying3
structure KM (w:World) (bk m:Nat) (D:DM) (K:List Bool) (c:Nat→Int):Prop where
 own:OwnsM w bk m D
 room:m+falses K≤K.length
 keys:∀x:Int,-9223372036854775808≤x∧x≤9223372036854775807→(Maps.has D (kl x)=true↔∃v:Nat,x=v∧K[v]?=some true)
 vals:∀v:Nat,K[v]?=some true→∀zd,D.atKey (kl v) zd= .lit (kl (c v))
def KMap (w:World) (bk:Nat) (K:List Bool) (c:Nat→Int):Prop:=∃m D,KM w bk m D K c
def toI:DM→Int
 | .lit (.int _ x)=>x
 |_=>0
def toL:Lit→Int
 | .int _ x=>x
 |_=>0
theorem kl_ne {x y:Int} (h:x≠y):kl x≠kl y:=fun e=>h (congrArg toL e)
theorem wfI {x:Int} (h: -9223372036854775808≤x∧x≤9223372036854775807):(kl x).wf=true:=by
 have e1:IntKind.i64.min= -9223372036854775808:=by decide
 have e2:IntKind.i64.max=9223372036854775807:=by decide
 show (decide (IntKind.i64.min≤x)&&decide (x≤IntKind.i64.max))=true
 rw[e1,e2,decide_eq_true h.1,decide_eq_true h.2];rfl
theorem keyI {x:Int} (h: -9223372036854775808≤x∧x≤9223372036854775807):keyOf Try.prog 3 (.int .i64 x)=some (kl x):=Maps.keyOf_int_mk Try.underlying3 (wfI h)
theorem klKey {x:Int} (h: -9223372036854775808≤x∧x≤9223372036854775807):WideAt.IsKeyLit (kl x):=keyedI.key (keyI h)
theorem zeroI (w:World):(zeroValue 3).run Try.prog w= .ok (.int .i64 0) w:=by kernel_rfl
theorem elemI {x:Int} (h: -9223372036854775808≤x∧x≤9223372036854775807):plainElem (H:=Unit) Try.prog 3 (.int .i64 x)=some (.lit (kl x),[]):=plainElem_int Try.underlying3 (wfI h)
theorem elemI_inv {v:Value} {z:DM×List MemPlace} (h:plainElem Try.prog 3 v=some z):∃x,v= .int .i64 x∧z=(.lit (kl x),[]):=by
 obtain ⟨a,h1,h2,-⟩:=plainElem_int_inv Try.underlying3 h;exact ⟨a,h1,h2⟩
theorem nat64 {v:Nat} (h:v<4096): -9223372036854775808≤(v:Int)∧(v:Int)≤9223372036854775807:=by omega
section
variable {w:World} {bk m:Nat} {D:DM} {K:List Bool} {c:Nat→Int} {v:Nat}
theorem KM.has (h:KM w bk m D K c) (hv:v<4096):Maps.has D (kl v)=true↔K[v]?=some true:=by
 rw[h.keys v (nat64 hv)];refine ⟨fun ⟨u,e,hu⟩=>?_,fun hu=>⟨v,rfl,hu⟩⟩;have:u=v:=by omega
 rw[←this];exact hu
theorem KMap.yes (h:KMap w bk K c) (hv:v<4096) (hK:K[v]?=some true):(Instr.lookup mapII (.map (some bk)) (.int .i64 (v:Int)) true).run Try.prog w= .ok (.tuple #[.int .i64 (c v),.bool true]) w:=by
 obtain ⟨m,D,h⟩:=h;obtain ⟨u,ps,hrun,hu⟩:=World.ownsMap.look_ok h.own keyedI Try.underlying119 (zeroI w) (elemI (x:=0) (by decide)) (keyI (nat64 hv))
 rw[h.vals v hK] at hu;obtain ⟨x,rfl,e⟩:=elemI_inv hu;replace e:=congrArg (fun z:DM×List MemPlace=>toI z.1) e
 dsimp only[toI] at e;rw[(h.has hv).2 hK, ←e] at hrun;exact hrun
theorem KMap.no (h:KMap w bk K c) (hv:v<4096) (hK:K[v]?=some false):(Instr.lookup mapII (.map (some bk)) (.int .i64 (v:Int)) true).run Try.prog w= .ok (.tuple #[.int .i64 0,.bool false]) w:=by
 obtain ⟨m,D,h⟩:=h
 have hno:Maps.has D (kl v)=false:=by
  cases hh:Maps.has D (kl v) with
  |false=>rfl
  |true=>rw[(h.has hv).1 hh] at hK;cases hK
 obtain ⟨u,ps,hrun,hu⟩:=World.ownsMap.look_ok h.own keyedI Try.underlying119 (zeroI w) (elemI (x:=0) (by decide)) (keyI (nat64 hv))
 rw[Maps.atKey_of_not_has hno] at hu;obtain ⟨x,rfl,e⟩:=elemI_inv hu;replace e:=congrArg (fun z:DM×List MemPlace=>toI z.1) e
 dsimp only[toI] at e;rw[hno, ←e] at hrun;exact hrun
theorem KMap.get (h:KMap w bk K c) (hv:v<4096) (hK:K[v]?=some true):(Instr.lookup mapII (.map (some bk)) (.int .i64 (v:Int)) false).run Try.prog w= .ok (.int .i64 (c v)) w:=by
 obtain ⟨m,D,h⟩:=h;obtain ⟨u,ps,hrun,hu⟩:=World.ownsMap.lookup h.own keyedI Try.underlying119 (zeroI w) (elemI (x:=0) (by decide)) (keyI (nat64 hv))
 rw[h.vals v hK] at hu;obtain ⟨x,rfl,e⟩:=elemI_inv hu;replace e:=congrArg (fun z:DM×List MemPlace=>toI z.1) e
 dsimp only[toI] at e;rw[←e] at hrun;exact hrun
theorem KMap.store (h:KMap w bk K c) (hl:K.length<4096) (hK:K[v]?=some false) (hc: -9223372036854775808≤c v∧c v≤9223372036854775807):
  ∃w',(Instr.mapUpdate mapII (.map (some bk)) (.int .i64 (v:Int)) (.int .i64 (c v))).run Try.prog w= .ok () w'∧KMap w' bk (K.set v true) c∧w.grownBy w' (some bk):=by
 obtain ⟨m,D,h⟩:=h
 have hvl:=(List.getElem?_eq_some_iff.1 hK).1
 have hf:=falses_set hK
 have hr:=h.room
 obtain ⟨w',hrun,hown,hgr⟩:=World.ownsMap.update h.own keyedI Try.underlying119 (by unfold maxLen;omega) (keyI (nat64 (v:=v) (by omega))) (elemI hc)
 have hm:Maps.IsMap D:=World.ownsMap.isMap h.own
 have hk:=klKey (nat64 (v:=v) (by omega))
 refine ⟨w',hrun,⟨m+1,_,hown,by rw[List.length_set];omega,fun x hx=>?_,fun u hu zd=>?_⟩,hgr⟩
 ·by_cases e:x=v
  ·subst e;rw[Maps.has_put_same hm hk];exact ⟨fun _=>⟨v,rfl,List.getElem?_set_self hvl⟩,fun _=>rfl⟩
  rw[Maps.has_put_other (kl_ne e),h.keys x hx];refine ⟨fun ⟨u,h1,h2⟩=>⟨u,h1,by rw[List.getElem?_set_ne (fun e3=>e (by omega))];exact h2⟩,fun ⟨u,h1,h2⟩=>⟨u,h1,?_⟩⟩
  rw[List.getElem?_set_ne (fun e3=>e (by omega))] at h2
  exact h2
 ·rcases set_get hu with ⟨rfl,-⟩|⟨hne,hu⟩
  ·exact Maps.atKey_put_same hm hk _ _
  rw[Maps.atKey_put_other (kl_ne (by omega))]
  exact h.vals u hu zd
theorem KMap.heap (h:KMap w bk K c) {w':World} (e:w'.heap[bk]?=w.heap[bk]?):KMap w' bk K c:=by
 obtain ⟨m,D,h⟩:=h;obtain ⟨es,clock,hb,r⟩:=h.own;exact ⟨m,D,⟨es,clock,e.trans hb,r⟩,h.room,h.keys,h.vals⟩
theorem KMap.lt (h:KMap w bk K c):bk<w.heap.size:=by
 obtain ⟨m,D,h⟩:=h;exact World.ownsMap.lt h.own
theorem KMap.only (h:KMap w bk K c) {w':World} {S:Nat→Prop} (ho:Only S w w') (hn: ¬ S bk):KMap w' bk K c:=h.heap (ho.block bk h.lt hn)
theorem KMap.made (w:World) (n:Nat) (c:Nat→Int):KMap (w.alloc (.map #[] 0)) w.heap.size (List.replicate n false) c:=by
 refine ⟨0,_,World.ownsMap_made w Try.prog 3 (plainElem Try.prog 3),?_,fun x _=>⟨fun h=>(by cases h),fun ⟨u,_,hu⟩=>?_⟩,fun u hu=>?_⟩
 ·rw[List.length_replicate,Nat.zero_add];have:=List.countP_le_length (p:=fun x=> !x) (l:=List.replicate n false);rw[List.length_replicate] at this;exact this
 ·have:=List.eq_of_mem_replicate (List.mem_of_getElem? hu);cases this
 have:=List.eq_of_mem_replicate (List.mem_of_getElem? hu);cases this
end
end
section
open Go.RowKit
structure FM (wq:World) (bx:Nat) (P:Prg) (hs:List (List Int)) (tops:List Int) (AH AT:Option Addr) (n:Nat):Prop where
 hrow:∀f,f<n→∃b off rb ro rc,AH=some ⟨b,off,none⟩∧b≠bx∧b<wq.heap.size∧wq.cell? ⟨b,off+f,none⟩=some (.slice (some ⟨rb,ro,none⟩) (P.len f) rc)∧rb≠bx∧rb<wq.heap.size∧
  ∀j,j<P.len f→wq.cell? ⟨rb,ro+j,none⟩=some (.int .i64 (htAt hs f j))
 trow:∀f,f<n→∃b off,AT=some ⟨b,off,none⟩∧b≠bx∧b<wq.heap.size∧wq.cell? ⟨b,off+f,none⟩=some (.int .i64 (tops.getD f 0))
theorem FM.only {wq w:World} {bx n:Nat} {P:Prg} {hs:List (List Int)} {tops:List Int} {AH AT:Option Addr} (h:FM wq bx P hs tops AH AT n) (ho:Only (fun k=>k=bx) wq w):FM w bx P hs tops AH AT n:=by
 refine ⟨fun f hf=>?_,fun f hf=>?_⟩
 ·obtain ⟨b,off,rb,ro,rc,h1,h2,h3,h4,h5,h6,h7⟩:=h.hrow f hf;have hz:=ho.size;refine ⟨b,off,rb,ro,rc,h1,h2,by omega,by rw[ho.cell (p:=⟨b,off+f,none⟩) h3 h2];exact h4,h5,by omega,fun j hj=>?_⟩
  rw[ho.cell (p:=⟨rb,ro+j,none⟩) h6 h5];exact h7 j hj
 obtain ⟨b,off,h1,h2,h3,h4⟩:=h.trow f hf;have hz:=ho.size;exact ⟨b,off,h1,h2,by omega,by rw[ho.cell (p:=⟨b,off+f,none⟩) h3 h2];exact h4⟩
structure WhQ (w0 wq w:World) (p:PrgM) (hs:List (List Int)) (tops:List Int) (AH AT:Option Addr) (nH cH nT cT:Nat) (vL vV ce co:Value) (bw bx bm lo hi:Nat):Prop where
 whc:WhC w0 w p hs bw bx bm lo hi
 blkX:Blk w bx 32 #[.slice AH nH cH,.slice AT nT cT,vL,vV,ce,co]
 old:Only (fun k=>k=bx) wq w
structure KSep (w0 wq:World) (bw bx lo hi bk:Nat):Prop where
 sep:WSep w0 bw bx lo hi bk
 new:wq.heap.size≤bk
theorem WhQ.one {w0 wq w w':World} {p:PrgM} {hs:List (List Int)} {tops:List Int} {AH AT:Option Addr} {nH cH nT cT:Nat} {vL vV ce co:Value} {bw bx bm lo hi bk:Nat}
  (h:WhQ w0 wq w p hs tops AH AT nH cH nT cT vL vV ce co bw bx bm lo hi) (hS:KSep w0 wq bw bx lo hi bk) (ho:Only (fun k=>k=bk) w w'):WhQ w0 wq w' p hs tops AH AT nH cH nT cT vL vV ce co bw bx bm lo hi:=
 ⟨h.whc.one hS.sep ho,h.blkX.only ho (fun e=>hS.sep.x e.symm),h.old.more ho fun k hk e=>by have:=hS.new;omega⟩
structure KP (cg:Nat→List Nat) (f:Nat) (a b:List Bool):Prop where
 len:b.length=a.length
 mono:∀v:Nat,a[v]?=some true→b[v]?=some true
 self:b[f]?=some true
 new:∀v:Nat,b[v]?=some true→a[v]?=some true∨Reach cg f v
structure KI (cg:Nat→List Nat) (f:Nat) (a b:List Bool):Prop where
 len:b.length=a.length
 mono:∀v:Nat,a[v]?=some true→b[v]?=some true
 new:∀v:Nat,b[v]?=some true→a[v]?=some true∨∃u∈cg f,Reach cg u v
section
variable {cg:Nat→List Nat} {f:Nat} {a b c:List Bool}
theorem KP.was (h:a[f]?=some true):KP cg f a a:=⟨rfl,fun _ h=>h,h,fun _ h=> .inl h⟩
theorem KI.start:KI cg f a a:=⟨rfl,fun _ h=>h,fun _ h=> .inl h⟩
theorem KI.step {u:Nat} (h:KI cg f a b) (hu:u∈cg f) (k:KP cg u b c):KI cg f a c:=
 ⟨k.len.trans h.len,fun v hv=>k.mono v (h.mono v hv),fun v hv=>by
  rcases k.new v hv with h1|h1
  ·exact h.new v h1
  exact .inr ⟨u,hu,h1⟩⟩
theorem KI.off (h:KI cg f a b) (ha:a[f]?=some false) (hc: ¬ Cyc cg f):b[f]?=some false:=by
 have hl:=(List.getElem?_eq_some_iff.1 ha).1;obtain ⟨x,hx⟩:∃x,b[f]?=some x:=⟨_,List.getElem?_eq_getElem (by rw[h.len];exact hl)⟩
 cases x with
 |false=>exact hx
 |true=>
  rcases h.new f hx with h1|h1
  ·rw[ha] at h1;cases h1
  exact absurd h1 hc
theorem KI.fin (h:KI cg f a b) (hf:f<a.length):KP cg f a (b.set f true):=by
 refine ⟨(List.length_set ..).trans h.len,fun v hv=>?_,List.getElem?_set_self (by rw[h.len];exact hf),fun v hv=>?_⟩
 ·by_cases e:v=f
  ·subst e;exact List.getElem?_set_self (by rw[h.len];exact hf)
  rw[List.getElem?_set_ne (Ne.symm e)];exact h.mono v hv
 rcases set_get hv with ⟨e,-⟩|⟨-,hv⟩
 ·rw[e];exact .inr (.refl f)
 rcases h.new v hv with h1|⟨u,h1,h2⟩
 ·exact .inl h1
 exact .inr (.step h1 h2)
end
end
section
open Go.RowKit
set_option maxRecDepth 100000 in
set_option maxHeartbeats 4000000 in
theorem again_any {p:PrgM} {hs:List (List Int)} {w0:World} {bw bx bm lo hi gU n:Nat} (hg:Good p.plain) (hn:p.fs.length=n) (hS:WSep w0 bw bx lo hi gU):
  ∀(k f:Nat) (a:List Int) (w:World),a.countP (·=0)<k→f<n→a.length=n→AgI (cg p.plain hs) a→Ahead (cg p.plain hs) f a→WhC w0 w p hs bw bx bm lo hi→OwnI w 0 (some ⟨gU,0,none⟩) n n a→
   Calls Try.prog 66 #[.pointer (some ⟨bw,0,none⟩),.int .i64 (f:Int),.slice (some ⟨gU,0,none⟩) n n] w fun e w'=>Only (fun g=>g=gU) w w'∧
    ((e= .returned (.bool false)∧∃b,AgP (cg p.plain hs) f a b∧OwnI w' 0 (some ⟨gU,0,none⟩) n n b)∨(e= .returned (.bool true)∧∃v,Reach (cg p.plain hs) f v∧Cyc (cg p.plain hs) v)):=by
 intro k
 induction k with
 |zero=>intro f a w hk;omega
 |succ k ih=>
  intro f a w hk hf hal hAI hAh hC hO;have hn64:n≤64:=by have:=(good_many hg.chk).2;rw[←hn];simpa [PrgM.plain] using this
  obtain ⟨v,hv⟩:∃v,a[f]?=some v:=⟨_,List.getElem?_eq_getElem (by omega)⟩
  have hcol:=hAI.col f v hv;have wl:=hC.blkW.lt;have c0:=hO.at_ f (by omega)
  rw[show a[f]'(by omega)=v from by rw[List.getElem?_eq_getElem (by omega)] at hv;exact Option.some.inj hv] at c0
  obtain ⟨cf,cl⟩:=OwnI.room hO f (by omega)
  have hf2:(f:Int)<(n:Int):=by omega
  have HC:=Lib.hid hC;have HO:=Lib.hid hO;have Hv:=Lib.hid hv;have HAI:=Lib.hid hAI;have HAh:=Lib.hid hAh;clear hC hO hv hAI hAh;rcases hcol with rfl|rfl|rfl
  ·obtain ⟨w1,hw1⟩:∃w1,w1=w.setCell ⟨gU,f,none⟩ (.int .i64 1):=⟨_,rfl⟩;have hO1:Only (fun g=>g=gU) w w1:=by rw[hw1];exact (Only.refl (fun g=>g=gU) w).setCell (p:=⟨gU,f,none⟩) (.inl rfl) _
   have hC1:=HC.out.one hS hO1;obtain ⟨A,c,hlk,hrow,hrng⟩:=hC1.calls.get w1 (fun _ _ _=>rfl) hC1.calls.size f (by omega)
   rw[callsI_len] at hlk;have y4:w.cell? ⟨bw,4,none⟩=some (.map (some bm)):=HC.out.blkW.cell 4;have hne1: ¬ bw=gU:=fun e=>hS.w e.symm;have hne2: ¬ gU=bw:=hS.w;obtain ⟨m,hm⟩:∃m,m=(callsN p.plain hs f).length:=⟨_,rfl⟩;rw[←hm] at hlk;have hm4:m≤4096:=by have:=callsN_len p.plain hs f;have:=good_len hg f;omega
   have Hm:=Lib.hid hm;have Hrng:=Lib.hid hrng;have Hw1:=Lib.hid hw1;rw[hw1] at hlk;have Hrow:=Lib.hid hrow;have HC1:=Lib.hid hC1;have HOn1:=Lib.hid hO1;have HL1:=Lib.hid (show OwnI w1 0 (some ⟨gU,0,none⟩) n n (a.set f 1) from by rw[hw1];exact HO.out.put f 1)
   clear hrow hC1 hO1 hrng hm hw1;go_enter Try.func66,Try.ntmps66
   go_wp2_with fail
   rw[←Hw1.out];go_loopw [6,29] (fun r i wr=>∃j:Nat,∃b,j≤m∧i= .int .i64 (j:Int)∧r= .bool false∧AgL (cg p.plain hs) f a j b∧OwnI wr 0 (some ⟨gU,0,none⟩) n n b∧Only (fun g=>g=gU) w1 wr) (fun _ i _=>m-(intOf i).toNat)
   case atStart=>exact ⟨0,_,Nat.zero_le _,rfl,rfl,AgL.start HAI.out Hv.out,HL1.out,Only.refl _ _⟩
   rename World=>wr;obtain ⟨j,b,hj,rfl,rfl,hI,hL,hB⟩:=hrel;have hCr:=HC1.out.one hS hB;have HCr:=Lib.hid hCr;have HI:=Lib.hid hI;have HL:=Lib.hid hL;have HB:=Lib.hid hB;by_cases hlt:j<m
   ·have g2:(j:Int)<(m:Int):=by omega
    have hjn:j<(callsN p.plain hs f).length:=by rw[←Hm.out];exact hlt
    obtain ⟨N,hN⟩:∃N,N=(callsN p.plain hs f)[j]:=⟨_,rfl⟩;obtain ⟨i,hi,h17,hia,hal2,hNl⟩:=good_call hg (hs:=hs) (f:=f) (n:=N) (by rw[hN];exact List.getElem_mem hjn)
    obtain ⟨G,hG⟩:∃G,G=p.plain.aOf f N:=⟨_,rfl⟩;rw[←hG] at hia hal2;have hGn:G<n:=by rw[←hn];simpa [PrgM.plain] using hal2
    have hcg:∃h,(cg p.plain hs f)[j]'h=G:=⟨by rw[cg_len];exact hjn,by rw[cg_get hjn, ←hN,hG]⟩
    have hrow2:=RV.same Hrow.out Hrng.out (SameOn.only hB HC1.out.calls.size fun k h1 h2=>hS.r k h1 h2) HCr.out.calls.size;obtain ⟨rb,ro,rfl,hrl,hrc⟩:=hrow2.at_ (by rw[List.length_map,callsI_len];omega)
    have r0:=hrc j _ (callsI_get hjn);rw[←hN] at r0;have hP:=hCr.prgAt;obtain ⟨g,hgf⟩:∃g,p.fs[f]?=some g:=⟨_,List.getElem?_eq_getElem (by omega)⟩
    obtain ⟨b0,off,hA,hb,q0,q1,q2,q3,hF,hFl⟩:=hP.fn hgf;have y2:wr.cell? ⟨bw,2,none⟩=some (.slice (some ⟨b0,off,none⟩) p.fs.length p.cF):=by rw[←hA];exact hCr.blkW.cell 2
    have wlr:=hCr.blkW.lt;have hi2:g.code[N]?=some i:=by rw[p.ins_plain,hgf,Option.bind_some] at hi;exact hi
    obtain ⟨b1,off1,hA1,hb1,s0,s1,hiok,hNg⟩:=hF.ins hi2;rw[hA1] at q3;rw[hia] at s1;have g3:(f:Int)<(p.fs.length:Int):=by omega
    have g4:(N:Int)<(g.code.length:Int):=by omega
    have hAhead:Ahead (cg p.plain hs) G b:=by
     obtain ⟨h1,h2⟩:=hcg;have h:=hI.ahead HAh.out h1;rw[h2] at h;exact h
    have HK:=Lib.hid (ih G b wr (by have:=hI.zs;omega) hGn (hI.len.trans ‹_›) hI.inv hAhead hCr hL)
    have Hcg:=Lib.hid hcg;clear hrow2 hrc hA hA1 hF hiok hi hi2 hgf hP hCr hI hL hB hcg hN hG hAhead;go_wp2_with fail
    refine HK.out.mono ?_;rintro e w2 ⟨hO2,⟨rfl,b2,hP2,hL2⟩|⟨rfl,v,hR2,hc2⟩⟩
    ·have HP2:=Lib.hid hP2;have HL2:=Lib.hid hL2;have HO2:=Lib.hid hO2;clear hP2 hL2 hO2;go_wp2_with fail
     refine ⟨⟨j+1,b2,by omega,rfl,rfl,?_,HL2.out,HB.out.trans HO2.out⟩,?_⟩
     ·obtain ⟨h1,h2⟩:=Hcg.out;exact HI.out.step h1 (by rw[h2];exact HP2.out)
     simp[intOf];omega
    have HR2:=Lib.hid hR2;have Hc2:=Lib.hid hc2;have HO2:=Lib.hid hO2;clear hR2 hc2 hO2;go_wp2_with fail
    go_ret
    obtain ⟨h1,h2⟩:=Hcg.out;exact ⟨HOn1.out.trans (HB.out.trans HO2.out),.inr ⟨rfl,v,.step (by rw[←h2];exact List.getElem_mem h1) HR2.out,Hc2.out⟩⟩
   obtain rfl:j=m:=by omega
   have hfl:f<b.length:=by rw[hI.len];omega
   have d0:=hL.at_ f hfl;obtain ⟨df,dl⟩:=OwnI.room hL f hfl
   have HF:=Lib.hid (show AgP (cg p.plain hs) f a (b.set f 2) from by
    have h:=hI;rw[Hm.out, ←cg_len] at h;exact h.fin)
   generalize b[f]'hfl=u0 at d0
   clear hCr hI hL hB;go_wp2_with fail
   go_ret
   exact ⟨HOn1.out.trans (HB.out.setCell (p:=⟨gU,f,none⟩) (.inl rfl) _),.inl ⟨rfl,_,HF.out,HL.out.put f 2⟩⟩
  ·go_enter Try.func66,Try.ntmps66
   go_wp2_with fail
   go_ret
   exact ⟨Only.refl _ _,.inr ⟨rfl,f,.refl f,HAh.out.cyc Hv.out⟩⟩
  go_enter Try.func66,Try.ntmps66
  go_wp2_with fail
  go_ret
  exact ⟨Only.refl _ _,.inl ⟨rfl,a,AgP.was HAI.out Hv.out,HO.out⟩⟩
end
section
def mostC:Int:=1099511627777
def callC (P:Prg) (f:Nat) (g:Nat→Int) (n:Nat):Int:=match P.ins f n with
 |some i=>if i.op=17 then g i.a.toNat else 0
 |none=>0
def costTo (P:Prg) (f:Nat) (c:Nat→Int) (n j:Nat):Int:=((nxF P f n).take j).foldl (fun m u=>max m (c u)) 0
def pcF (P:Prg) (f:Nat) (g:Nat→Int):Nat→Nat→Int
 |0,_=>0
 |k+1,n=>min (1+callC P f g n+costTo P f (pcF P f g k) n (nxF P f n).length) mostC
def pcL (P:Prg) (f:Nat) (g:Nat→Int):Nat→Int:=pcF P f g (P.len f+1)
def kcF (P:Prg):Nat→Nat→Int
 |0,_=>0
 |k+1,f=>pcL P f (kcF P k) 0
def kcL (P:Prg):Nat→Int:=kcF P (P.fs.length+1)
structure Strt (P:Prg) (hs:List (List Int)):Prop where
 acyc:Acyc P hs
 straight:∀f,Reach (cg P hs) 0 f→∀n,Reach (nxF P f) 0 n→¬ Cyc (nxF P f) n
 fin:∀f,f<P.fs.length→HFin P f (hs.getD f [])
 len:hs.length=P.fs.length
theorem costTo_zero {P:Prg} {f:Nat} {c:Nat→Int} {n:Nat}:costTo P f c n 0=0:=rfl
theorem costTo_next {P:Prg} {f:Nat} {c:Nat→Int} {n j:Nat} (h:j<(nxF P f n).length):costTo P f c n (j+1)=max (costTo P f c n j) (c (nxF P f n)[j]):=by
 unfold costTo;rw[take_next _ _ h,List.foldl_append];rfl
theorem costTo_congr {P:Prg} {f:Nat} {c d:Nat→Int} {n:Nat} (h:∀u∈nxF P f n,c u=d u) (j:Nat):costTo P f c n j=costTo P f d n j:=by
 have key:∀(l:List Nat) (x:Int),(∀u∈l,c u=d u)→l.foldl (fun m u=>max m (c u)) x=l.foldl (fun m u=>max m (d u)) x:=by
  intro l;induction l with
  |nil=>intro x _;rfl
  |cons a l ih=>
   intro x hl;rw[List.foldl_cons,List.foldl_cons,hl a (List.mem_cons_self ..)];exact ih _ fun u hu=>hl u (List.mem_cons_of_mem _ hu)
 exact key _ _ fun u hu=>h u (List.mem_of_mem_take hu)
theorem costTo_bnd {P:Prg} {f:Nat} {c:Nat→Int} {n:Nat} {B:Int} (hB:0≤B) (h:∀u∈nxF P f n,c u≤B) (j:Nat):0≤costTo P f c n j∧costTo P f c n j≤B∧∀u∈(nxF P f n).take j,c u≤costTo P f c n j:=by
 have key:∀(l:List Nat) (x:Int),0≤x→x≤B→(∀u∈l,c u≤B)→0≤l.foldl (fun m u=>max m (c u)) x∧l.foldl (fun m u=>max m (c u)) x≤B∧x≤l.foldl (fun m u=>max m (c u)) x∧∀u∈l,c u≤l.foldl (fun m u=>max m (c u)) x:=by
  intro l;induction l with
  |nil=>intro x h0 h1 _;exact ⟨h0,h1,Int.le_refl _,fun u hu=>(by cases hu)⟩
  |cons a l ih=>
   intro x h0 h1 hl;have ha:=hl a (List.mem_cons_self ..);have:=ih (max x (c a)) (by omega) (by omega) fun u hu=>hl u (List.mem_cons_of_mem _ hu)
   rw[List.foldl_cons];refine ⟨this.1,this.2.1,by omega,fun u hu=>?_⟩
   rcases List.mem_cons.1 hu with rfl|hu
   ·omega
   exact this.2.2.2 u hu
 have:=key ((nxF P f n).take j) 0 (Int.le_refl 0) hB fun u hu=>h u (List.mem_of_mem_take hu);exact ⟨this.1,this.2.1,this.2.2.2⟩
section
variable {P:Prg} {hs:List (List Int)}
theorem Strt.call (S:Strt P hs) (hg:Good P) {f n:Nat} {i:Ins} (hf:f<P.fs.length) (hr:Reach (nxF P f) 0 n) (hi:P.ins f n=some i) (h17:i.op=17):n∈callsN P hs f∧P.aOf f n=i.a.toNat∧i.a.toNat∈cg P hs f:=by
 have hF:=S.fin f hf;obtain ⟨x,hx,h0⟩:=hF.reach hg.chk hr
 have hm:n∈callsN P hs f:=by
  refine mem_callsN (Prg.ins_lt hi) hi h17 ?_;unfold htAt;rw[List.getD_eq_getElem?_getD (l:=hs.getD f []),hx];exact h0
 have ha:P.aOf f n=i.a.toNat:=by unfold Prg.aOf;rw[hi]
 exact ⟨hm,ha,by rw[←ha];exact List.mem_map.2 ⟨n,hm,rfl⟩⟩
theorem callC_congr (S:Strt P hs) (hg:Good P) {f n:Nat} (hf:f<P.fs.length) (hr:Reach (nxF P f) 0 n) {g g':Nat→Int} (h:∀u∈cg P hs f,g u=g' u):callC P f g n=callC P f g' n:=by
 unfold callC;cases hi:P.ins f n with
 |none=>rfl
 |some i=>
  dsimp only;split
  ·rename_i h17
   exact h _ (S.call hg hf hr hi h17).2.2
  rfl
theorem pcF_congr (S:Strt P hs) (hg:Good P) {f:Nat} (hf:Reach (cg P hs) 0 f) {g g':Nat→Int} (h:∀u∈cg P hs f,g u=g' u):∀(k l n:Nat),Reach (nxF P f) 0 n→rk (nxF P f) (P.len f) n<k→rk (nxF P f) (P.len f) n<l→pcF P f g k n=pcF P f g' l n
 |0,_,_,_,h1,_=>by omega
 |_+1,0,_,_,_,h2=>by omega
 |k+1,l+1,n,hr,h1,h2=>by
  unfold pcF;have hfl:=reach_lt hg hf
  have hn:n<P.len f:=by
   obtain ⟨x,hx,-⟩:=(S.fin f hfl).reach hg.chk hr;rw[←(S.fin f hfl).len];exact (List.getElem?_eq_some_iff.1 hx).1
  rw[callC_congr S hg hfl hr h,costTo_congr (d:=pcF P f g' l) fun u hu=>?_];have:=rk_lt (n:=P.len f) hn hu (S.straight f hf n hr);exact pcF_congr S hg hf h k l u (hr.trans (.one hu)) (by omega) (by omega)
theorem kcF_congr (S:Strt P hs) (hg:Good P):∀(k l f:Nat),Reach (cg P hs) 0 f→rk (cg P hs) P.fs.length f<k→rk (cg P hs) P.fs.length f<l→kcF P k f=kcF P l f
 |0,_,_,_,h1,_=>by omega
 |_+1,0,_,_,_,h2=>by omega
 |k+1,l+1,f,hr,h1,h2=>by
  unfold kcF pcL;have hfl:=reach_lt hg hr;refine pcF_congr S hg hr (fun u hu=>?_) _ _ 0 (.refl 0) (by have:=rk_le (nxF P f) (P.len f) 0;omega) (by have:=rk_le (nxF P f) (P.len f) 0;omega)
  have:=rk_lt (n:=P.fs.length) hfl hu (S.acyc f hr);exact kcF_congr S hg k l u (hr.trans (.one hu)) (by omega) (by omega)
theorem pc_eq (S:Strt P hs) (hg:Good P) {f n:Nat} (hf:Reach (cg P hs) 0 f) (hr:Reach (nxF P f) 0 n) (g:Nat→Int):pcL P f g n=min (1+callC P f g n+costTo P f (pcL P f g) n (nxF P f n).length) mostC:=by
 have hfl:=reach_lt hg hf
 have hn:n<P.len f:=by
  obtain ⟨x,hx,-⟩:=(S.fin f hfl).reach hg.chk hr;rw[←(S.fin f hfl).len];exact (List.getElem?_eq_some_iff.1 hx).1
 show pcF P f g (P.len f+1) n=_
 unfold pcF;rw[costTo_congr (d:=pcL P f g) fun u hu=>?_];have:=rk_lt (n:=P.len f) hn hu (S.straight f hf n hr);have:=rk_le (nxF P f) (P.len f) n;exact pcF_congr S hg hf (fun _ _=>rfl) _ _ u (hr.trans (.one hu)) (by omega) (by omega)
theorem kc_eq (S:Strt P hs) (hg:Good P) {f:Nat} (hf:Reach (cg P hs) 0 f):kcL P f=pcL P f (kcL P) 0:=by
 have hfl:=reach_lt hg hf;show kcF P (P.fs.length+1) f=_
 unfold kcF;refine pcF_congr S hg hf (fun u hu=>?_) _ _ 0 (.refl 0) (by have:=rk_le (nxF P f) (P.len f) 0;omega) (by have:=rk_le (nxF P f) (P.len f) 0;omega)
 have:=rk_lt (n:=P.fs.length) hfl hu (S.acyc f hf);have:=rk_le (cg P hs) P.fs.length f;exact kcF_congr S hg _ _ u (hf.trans (.one hu)) (by omega) (by omega)
end
theorem pcF_pos {P:Prg} {f:Nat} {g:Nat→Int} (hg:∀n,0≤callC P f g n):∀k n,0≤pcF P f g k n∧pcF P f g k n≤mostC∧(0<k→1≤pcF P f g k n)
 |0,n=>⟨Int.le_refl 0,(by decide:(0:Int)≤mostC),fun h=>by omega⟩
 |k+1,n=>by
  unfold pcF;have h1:=costTo_bnd (P:=P) (f:=f) (n:=n) (c:=pcF P f g k) (B:=mostC) (by decide) (fun u _=>(pcF_pos hg k u).2.1) (nxF P f n).length
  have:=hg n;have:mostC=1099511627777:=rfl;refine ⟨by omega,by omega,fun _=>by omega⟩
theorem kcF_pos {P:Prg}:∀k f,0≤kcF P k f∧kcF P k f≤mostC
 |0,f=>⟨Int.le_refl 0,(by decide:(0:Int)≤mostC)⟩
 |k+1,f=>by
  unfold kcF
  have:=pcF_pos (P:=P) (f:=f) (g:=kcF P k) (fun n=>by
   unfold callC;split
   ·split
    ·exact (kcF_pos k _).1
    exact Int.le_refl 0
   exact Int.le_refl 0) (P.len f+1) 0
  exact ⟨this.1,this.2.1⟩
theorem callC_pos {P:Prg} {f n:Nat}:0≤callC P f (kcL P) n∧callC P f (kcL P) n≤mostC:=by
 unfold callC;split
 ·split
  ·exact kcF_pos _ _
  exact ⟨Int.le_refl 0,by decide⟩
 exact ⟨Int.le_refl 0,by decide⟩
theorem pc_pos {P:Prg} {f n:Nat}:1≤pcL P f (kcL P) n∧pcL P f (kcL P) n≤mostC:=by
 have:=pcF_pos (P:=P) (f:=f) (g:=kcL P) (fun n=>callC_pos.1) (P.len f+1) n;exact ⟨this.2.2 (by omega),this.2.1⟩
section
variable {P:Prg} {hs:List (List Int)}
theorem pc_mono (S:Strt P hs) (hg:Good P) {f a b:Nat} (hf:Reach (cg P hs) 0 f) (ha:Reach (nxF P f) 0 a) (hr:Reach (nxF P f) a b):pcL P f (kcL P) b≤pcL P f (kcL P) a:=by
 induction hr with
 |refl=>exact Int.le_refl _
 | @step a u b h1 _ ih=>
  refine Int.le_trans (ih (ha.trans (.one h1))) ?_;rw[pc_eq S hg hf ha];have h2:=costTo_bnd (P:=P) (f:=f) (n:=a) (c:=pcL P f (kcL P)) (B:=mostC) (by decide) (fun u _=>pc_pos.2) (nxF P f a).length
  have h3:=h2.2.2 u (by rw[List.take_length];exact h1)
  have h4:=(callC_pos (P:=P) (f:=f) (n:=a)).1;have h5:=(pc_pos (P:=P) (f:=f) (n:=u)).2;omega
theorem kc_mono (S:Strt P hs) (hg:Good P) {f u:Nat} (hf:Reach (cg P hs) 0 f) (hr:Reach (cg P hs) f u):kcL P u≤kcL P f:=by
 induction hr with
 |refl=>exact Int.le_refl _
 | @step f v u h1 _ ih=>
  refine Int.le_trans (ih (hf.trans (.one h1))) ?_;obtain ⟨n,hn,rfl⟩:=List.mem_map.1 h1;obtain ⟨hl,i,hi,h17,hh,ha⟩:=callsN_is hn;have hfl:=reach_lt hg hf;have hF:=S.fin f hfl
  have hr:Reach (nxF P f) 0 n:=by
   unfold htAt at hh;rw[List.getD_eq_getElem?_getD (l:=hs.getD f [])] at hh;cases hx:(hs.getD f [])[n]? with
   |none=>rw[hx] at hh;simp at hh
   |some x=>rw[hx] at hh;exact hF.come n x hx (by simp at hh;omega)
  have h1:=pc_mono S hg hf (.refl 0) hr;rw[kc_eq S hg hf];refine Int.le_trans ?_ h1;rw[pc_eq S hg hf hr];have h2:=costTo_bnd (P:=P) (f:=f) (n:=n) (c:=pcL P f (kcL P)) (B:=mostC) (by decide) (fun u _=>pc_pos.2) (nxF P f n).length
  have h3:callC P f (kcL P) n=kcL P (P.aOf f n):=by unfold callC;rw[hi];dsimp only;rw[if_pos h17,ha]
  have h4:kcL P (P.aOf f n)≤mostC:=(kcF_pos _ _).2;rw[h3];omega
end
end
end Go.Proofs.Ytcmpmhlcfalbhaa
