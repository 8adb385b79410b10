import Derived.Test.YtcmpmhlcfalbhaaV14
namespace Go.Proofs.Ytcmpmhlcfalbhaa
theorem spread_bad {b:Int}:∀{l:List Nat} {h:List Int} {ws:List Bool} {u:Nat},u∈l→h[u]?≠some (-1)→h[u]?≠some b→spread b l h ws=none
 |[],_,_,_,hu,_,_=>by cases hu
 |x::l,h,ws,u,hu,h1,h2=>by
  unfold spread;by_cases e1:h[x]?=some (-1)
  ·rw[if_pos e1];have hne:u≠x:=fun e=>h1 (by rw[e];exact e1)
   have hul:u∈l:=by
    rcases List.mem_cons.1 hu with e|e
    ·exact absurd e hne
    exact e
   exact spread_bad hul (by rw[List.getElem?_set_ne (Ne.symm hne)];exact h1) (by rw[List.getElem?_set_ne (Ne.symm hne)];exact h2)
  rw[if_neg e1];by_cases e2:h[x]?=some b
  ·rw[if_pos e2]
   have hul:u∈l:=by
    rcases List.mem_cons.1 hu with e|e
    ·rw[e] at h2;exact absurd e2 h2
    exact e
   exact spread_bad hul h1 h2
  rw[if_neg e2]
theorem spread_app {b:Int}:∀(l m:List Nat) (h:List Int) (ws:List Bool),spread b (l++m) h ws=(spread b l h ws).bind fun q=>spread b m q.1 q.2
 |[],m,h,ws=>rfl
 |x::l,m,h,ws=>by
  rw[List.cons_append];show (if h[x]?=some (-1) then spread b (l++m) (h.set x b) (ws.set x true) else if h[x]?=some b then spread b (l++m) h ws else none)=(if h[x]?=some (-1) then spread b l (h.set x b) (ws.set x true) else if h[x]?=some b then spread b l h ws else none).bind _
  by_cases e1:h[x]?=some (-1)
  ·rw[if_pos e1,if_pos e1];exact spread_app l m _ _
  rw[if_neg e1,if_neg e1];by_cases e2:h[x]?=some b
  ·rw[if_pos e2,if_pos e2];exact spread_app l m _ _
  rw[if_neg e2,if_neg e2];rfl
structure SpL (b:Int) (l:List Nat) (h:List Int) (ws:List Bool) (j:Nat) (h':List Int) (ws':List Bool):Prop where
 run:spread b (l.take j) h ws=some (h',ws')
 all:∀u∈l,h'[u]?=some (-1)∨h'[u]?=some b
 lh:h'.length=h.length
 lw:ws'.length=ws.length
section
variable {b:Int} {l:List Nat} {h h':List Int} {ws ws':List Bool} {j u:Nat}
theorem SpL.start (ha:∀u∈l,h[u]?=some (-1)∨h[u]?=some b):SpL b l h ws 0 h ws:=⟨rfl,ha,rfl,rfl⟩
theorem SpL.mark (H:SpL b l h ws j h' ws') (hu:l[j]?=some u) (hx:h'[u]?=some (-1)):SpL b l h ws (j+1) (h'.set u b) (ws'.set u true):=by
 refine ⟨?_,fun v hv=>?_,by rw[List.length_set];exact H.lh,by rw[List.length_set];exact H.lw⟩
 ·rw[List.take_add_one,hu,spread_app,H.run];show (if h'[u]?=some (-1) then _ else _)=_
  rw[if_pos hx];rfl
 by_cases e:u=v
 ·subst e;exact .inr (List.getElem?_set_self (List.getElem?_eq_some_iff.1 hx).1)
 rw[List.getElem?_set_ne e];exact H.all v hv
theorem SpL.pass (H:SpL b l h ws j h' ws') (hu:l[j]?=some u) (hx:h'[u]?≠some (-1)):SpL b l h ws (j+1) h' ws':=by
 refine ⟨?_,H.all,H.lh,H.lw⟩;rw[List.take_add_one,hu,spread_app,H.run];show (if h'[u]?=some (-1) then _ else if h'[u]?=some b then spread b [] h' ws' else none)=_
 rw[if_neg hx,if_pos ((H.all u (List.mem_of_getElem? hu)).resolve_left hx)];rfl
theorem SpL.fin (H:SpL b l h ws l.length h' ws'):spread b l h ws=some (h',ws'):=by
 have h1:=H.run;rw[List.take_length] at h1;exact h1
end
section
variable {P:Prg} {f n:Nat} {i:Ins} {x:Int}
theorem standI_ret (h:i.op=18) (hx:x≠P.results f):standI P f n i x=(138,0):=by
 unfold standI;have hc:(if i.op=18 then x≠P.results f else (if i.op=5 then i.a+1 else (takesL P f n).1)>x):=by rw[if_pos h];exact hx
 rw[if_pos hc,if_pos h]
theorem standI_retOk (h:i.op=18) (hI:(takesL P f n).1=P.results f∧(takesL P f n).2=0) (hx:x=P.results f):standI P f n i x=(0,0):=by
 have hg:goesL i n=[]:=by unfold goesL;rw[if_pos (.inr (.inr h))]
 have hc: ¬ (if i.op=18 then x≠P.results f else (if i.op=5 then i.a+1 else (takesL P f n).1)>x):=by rw[if_pos h];simpa using hx
 unfold standI;rw[if_neg hc,hI.1,hI.2,hx,if_neg (by omega),hg]
 simp
theorem goN_ret (h:i.op=18):goN i n=[]:=by
 unfold goN goesL;rw[if_pos (.inr (.inr h))];rfl
def wantsL (P:Prg) (f n:Nat) (i:Ins):Int:=if i.op=5 then i.a+1 else (takesL P f n).1
theorem cond_pos (h:i.op≠18) (hx:x<wantsL P f n i):(if i.op=18 then x≠P.results f else (if i.op=5 then i.a+1 else (takesL P f n).1)>x):=by rw[if_neg h];exact hx
theorem cond_neg (h:i.op≠18) (hx: ¬ x<wantsL P f n i): ¬ (if i.op=18 then x≠P.results f else (if i.op=5 then i.a+1 else (takesL P f n).1)>x):=by rw[if_neg h];exact hx
theorem standI_under (h:i.op≠18) (hx:x<wantsL P f n i):standI P f n i x=(134,0):=by
 unfold standI;rw[if_pos (cond_pos h hx),if_neg h]
theorem standI_over (h:i.op≠18) (hx: ¬ x<wantsL P f n i) (h2:256<x-(takesL P f n).1+(takesL P f n).2):standI P f n i x=(135,0):=by
 unfold standI;rw[if_neg (cond_neg h hx),if_pos h2]
theorem standI_end (h:i.op≠18) (hx: ¬ x<wantsL P f n i) (h2: ¬ 256<x-(takesL P f n).1+(takesL P f n).2) {y:Int} (hy:y∈goesL i n) (h3:(P.len f:Int)≤y):standI P f n i x=(137,0):=by
 unfold standI;rw[if_neg (cond_neg h hx),if_neg h2,if_pos (List.any_eq_true.2 ⟨y,hy,by simpa using h3⟩)]
theorem standI_ok (h:i.op≠18) (hx: ¬ x<wantsL P f n i) (h2: ¬ 256<x-(takesL P f n).1+(takesL P f n).2) (h3:∀y∈goesL i n,¬ (P.len f:Int)≤y):standI P f n i x=(0,x-(takesL P f n).1+(takesL P f n).2):=by
 have h4: ¬ ((goesL i n).any fun x=>decide ((P.len f:Int)≤x))=true:=fun h4=>by
  obtain ⟨y,hy,h5⟩:=List.any_eq_true.1 h4;exact h3 y hy (by simpa using h5)
 unfold standI;rw[if_neg (cond_neg h hx),if_neg h2,if_neg h4]
end
structure Srch (nx:Nat→List Nat) (st:List Nat) (N:Nat) (seen:List Bool) (row:List Nat):Prop where
 len:seen.length=N
 row_ok:∀v∈row,∃s∈st,Reach nx s v
 seen_ok:∀v:Nat,seen[v]?=some true→∃s∈st,Reach nx s v
 start:∀s∈st,seen[s]?=some true∨s∈row
 next:∀v:Nat,seen[v]?=some true→∀u∈nx v,seen[u]?=some true∨u∈row
section
variable {nx:Nat→List Nat} {st row:List Nat} {N x:Nat} {seen:List Bool}
theorem Srch.first (st:List Nat) (N:Nat):Srch nx st N (List.replicate N false) st:=
 ⟨by simp,fun v hv=>⟨v,hv,.refl v⟩,fun v hv=>(by have:=List.eq_of_mem_replicate (List.mem_of_getElem? hv);cases this),fun s hs=> .inr hs,fun v hv=>(by have:=List.eq_of_mem_replicate (List.mem_of_getElem? hv);cases this)⟩
theorem Srch.skip (H:Srch nx st N seen (x::row)) (hx:seen[x]?=some true):Srch nx st N seen row:=
 ⟨H.len,fun v hv=>H.row_ok v (List.mem_cons_of_mem _ hv),H.seen_ok,fun s hs=>(H.start s hs).elim .inl fun e=>(List.mem_cons.1 e).elim (fun e=> .inl (by rw[e];exact hx)) .inr,
  fun v hv u hu=>(H.next v hv u hu).elim .inl fun e=>(List.mem_cons.1 e).elim (fun e=> .inl (by rw[e];exact hx)) .inr⟩
theorem Srch.take (H:Srch nx st N seen (x::row)) (hx:x<N):Srch nx st N (seen.set x true) (row++nx x):=by
 obtain ⟨s,hs,hr⟩:=H.row_ok x (List.mem_cons_self ..);have hself:(seen.set x true)[x]?=some true:=List.getElem?_set_self (by rw[H.len];exact hx)
 have key:∀u:Nat,seen[u]?=some true∨u∈x::row→(seen.set x true)[u]?=some true∨u∈row++nx x:=fun u hu=>by
  by_cases e:x=u
  ·subst e;exact .inl hself
  rcases hu with h|h
  ·exact .inl (by rw[List.getElem?_set_ne e];exact h)
  rcases List.mem_cons.1 h with h|h
  ·exact absurd h.symm e
  exact .inr (List.mem_append_left _ h)
 refine ⟨by rw[List.length_set];exact H.len,fun v hv=>?_,fun v hv=>?_,fun s hs=>key s (H.start s hs),fun v hv u hu=>?_⟩
 ·rcases List.mem_append.1 hv with hv|hv
  ·exact H.row_ok v (List.mem_cons_of_mem _ hv)
  exact ⟨s,hs,hr.trans (.one hv)⟩
 ·rcases set_get hv with ⟨rfl,-⟩|⟨-,hv⟩
  ·exact ⟨s,hs,hr⟩
  exact H.seen_ok v hv
 rcases set_get hv with ⟨rfl,-⟩|⟨-,hv⟩
 ·exact .inr (List.mem_append_right _ hu)
 exact key u (H.next v hv u hu)
theorem Srch.fin (H:Srch nx st N seen []) (v:Nat):seen[v]?=some true↔∃s∈st,Reach nx s v:=by
 refine ⟨H.seen_ok v,fun ⟨s,hs,hr⟩=>?_⟩;have h1:seen[s]?=some true:=(H.start s hs).resolve_right (fun e=>by cases e)
 have key:∀a b:Nat,Reach nx a b→seen[a]?=some true→seen[b]?=some true:=by
  intro a b hr;induction hr with
  |refl=>exact fun h=>h
  |step h2 _ ih=>exact fun h=>ih ((H.next _ h _ h2).resolve_right (fun e=>by cases e))
 exact key s v hr h1
def todo (M:Nat) (seen:List Bool) (row:List Nat):Nat:=(M+1)*seen.countP (fun x=> !x)+row.length
theorem todo_take {M:Nat} (hx:seen[x]?=some false) (hM:(nx x).length≤M):todo M (seen.set x true) (row++nx x)<todo M seen (x::row):=by
 have h1:=countP_set (fun x=> !x) seen x false true hx;simp only[Bool.not_false,if_true,Bool.not_true,Bool.false_eq_true,if_false,Nat.add_zero] at h1;unfold todo;rw[←h1,List.length_append,List.length_cons,Nat.mul_add,Nat.mul_one];omega
theorem todo_skip {M:Nat}:todo M seen row<todo M seen (x::row):=by
 unfold todo;rw[List.length_cons];omega
end
end Go.Proofs.Ytcmpmhlcfalbhaa
