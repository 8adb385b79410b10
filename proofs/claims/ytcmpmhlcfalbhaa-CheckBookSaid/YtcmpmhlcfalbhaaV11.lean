import Derived.Test.YtcmpmhlcfalbhaaV10
import Derived.Test.YtcmpmhlcfalbhaaV04
import Derived.Test.YtcmpmhlcfalbhaaV01
import Derived.Deep.RegionHeld3
namespace Go.Proofs.Ytcmpmhlcfalbhaa
section
section
open Go.RowKit
def badOp (P:Prg) (g:Fun) (i:Ins):Int:=
 if i.op=14∨i.op=15∨i.op=16 then (if (g.code.length:Int)≤i.a then 131 else 0) else
 if i.op=7∨i.op=8 then (if g.locals≤i.a then 132 else 0) else
 if i.op=17 then (if (P.fs.length:Int)≤i.a then 133 else 0) else 0
def firstI (bad:Ins→Int):List Ins→Nat→Option (Int×Nat)
 |[],_=>none
 |i::l,n=>if bad i=0 then firstI bad l (n+1) else some (bad i,n)
abbrev Flt:=Option (Int×Int×Int)
def joinF (o:Option (Int×Nat)) (k:Int) (rest:Flt):Flt:=
 match o with
 |some (e,n)=>some (e,k,(n:Int))
 |none=>rest
def firstP (P:Prg):List Fun→Nat→Flt
 |[],_=>none
 |g::l,k=>joinF (firstI (badOp P g) g.code 0) k (firstP P l (k+1))
def faultV:Flt→Value
 |none=> .agg #[.int .i64 0,.int .i64 0,.int .i64 0]
 |some (e,f,n)=> .agg #[.int .i64 e,.int .i64 f,.int .i64 n]
theorem badOp_cases (P:Prg) (g:Fun) (i:Ins):
  ((i.op=14∨i.op=15∨i.op=16)∧(g.code.length:Int)≤i.a∧badOp P g i=131)∨((i.op=14∨i.op=15∨i.op=16)∧¬ (g.code.length:Int)≤i.a∧badOp P g i=0)∨
  ((i.op=7∨i.op=8)∧g.locals≤i.a∧badOp P g i=132)∨((i.op=7∨i.op=8)∧¬ g.locals≤i.a∧badOp P g i=0)∨
  (i.op=17∧(P.fs.length:Int)≤i.a∧badOp P g i=133)∨(i.op=17∧¬ (P.fs.length:Int)≤i.a∧badOp P g i=0)∨
  (i.op≠14∧i.op≠15∧i.op≠16∧i.op≠7∧i.op≠8∧i.op≠17∧badOp P g i=0):=by
 unfold badOp
 by_cases h1:i.op=14∨i.op=15∨i.op=16
 ·by_cases h2:(g.code.length:Int)≤i.a
  ·exact .inl ⟨h1,h2,by rw[if_pos h1,if_pos h2]⟩
  exact .inr (.inl ⟨h1,h2,by rw[if_pos h1,if_neg h2]⟩)
 by_cases h3:i.op=7∨i.op=8
 ·by_cases h2:g.locals≤i.a
  ·exact .inr (.inr (.inl ⟨h3,h2,by rw[if_neg h1,if_pos h3,if_pos h2]⟩))
  exact .inr (.inr (.inr (.inl ⟨h3,h2,by rw[if_neg h1,if_pos h3,if_neg h2]⟩)))
 by_cases h4:i.op=17
 ·by_cases h2:(P.fs.length:Int)≤i.a
  ·exact .inr (.inr (.inr (.inr (.inl ⟨h4,h2,by rw[if_neg h1,if_neg h3,if_pos h4,if_pos h2]⟩))))
  exact .inr (.inr (.inr (.inr (.inr (.inl ⟨h4,h2,by rw[if_neg h1,if_neg h3,if_pos h4,if_neg h2]⟩)))))
 ·exact .inr (.inr (.inr (.inr (.inr (.inr ⟨by omega,by omega,by omega,by omega,by omega,h4,by rw[if_neg h1,if_neg h3,if_neg h4]⟩)))))
theorem firstI_none {bad:Ins→Int} {l:List Ins} {n:Nat} (h:firstI bad l n=none):∀i∈l,bad i=0:=by
 induction l generalizing n with
 |nil=>intro i hi;cases hi
 |cons x l ih=>
  unfold firstI at h;by_cases hx:bad x=0
  ·rw[if_pos hx] at h;intro i hi;rcases List.mem_cons.1 hi with rfl|hi
   ·exact hx
   exact ih h i hi
  rw[if_neg hx] at h;cases h
theorem firstP_none {P:Prg} {l:List Fun} {k:Nat} (h:firstP P l k=none):∀g∈l,∀i∈g.code,badOp P g i=0:=by
 induction l generalizing k with
 |nil=>intro g hg;cases hg
 |cons x l ih=>
  unfold firstP at h;cases hx:firstI (badOp P x) x.code 0 with
  |none=>
   rw[hx] at h;intro g hg;rcases List.mem_cons.1 hg with rfl|hg
   ·exact firstI_none hx
   exact ih h g hg
  |some y=>rw[hx] at h;cases h
end
section
open Go.RowKit
def standI (P:Prg) (f n:Nat) (i:Ins) (h:Int):Int×Int:=
 if (if i.op=18 then h≠P.results f else (if i.op=5 then i.a+1 else (takesL P f n).1)>h) then ((if i.op=18 then 138 else 134),0) else
 if 256<h-(takesL P f n).1+(takesL P f n).2 then (135,0) else
 if (goesL i n).any (fun x=>decide ((P.len f:Int)≤x)) then (137,0) else (0,h-(takesL P f n).1+(takesL P f n).2)
def goN (i:Ins) (n:Nat):List Nat:=(goesL i n).map Int.toNat
def spread (b:Int):List Nat→List Int→List Bool→Option (List Int×List Bool)
 |[],h,ws=>some (h,ws)
 |x::l,h,ws=>if h[x]?=some (-1) then spread b l (h.set x b) (ws.set x true) else if h[x]?=some b then spread b l h ws else none
abbrev HRes:=List Int ⊕ (Int×Nat)
inductive HRuns (P:Prg) (f:Nat):List Int→List Bool→HRes→Prop
 |done {h:List Int} {ws:List Bool}:(∀j:Nat,ws[j]?≠some true)→HRuns P f h ws (.inl h)
 |bad {h:List Int} {ws:List Bool} {n:Nat} {i:Ins} {x e b:Int}:ws[n]?=some true→(∀j,j<n→ws[j]?≠some true)→h[n]?=some x→P.ins f n=some i→standI P f n i x=(e,b)→e≠0→HRuns P f h ws (.inr (e,n))
 |join {h:List Int} {ws:List Bool} {n:Nat} {i:Ins} {x b:Int}:ws[n]?=some true→(∀j,j<n→ws[j]?≠some true)→h[n]?=some x→P.ins f n=some i→standI P f n i x=(0,b)→
  spread b (goN i n) h (ws.set n false)=none→HRuns P f h ws (.inr (136,n))
 |step {h h':List Int} {ws ws':List Bool} {n:Nat} {i:Ins} {x b:Int} {R:HRes}:ws[n]?=some true→(∀j,j<n→ws[j]?≠some true)→h[n]?=some x→P.ins f n=some i→standI P f n i x=(0,b)→
  spread b (goN i n) h (ws.set n false)=some (h',ws')→HRuns P f h' ws' R→HRuns P f h ws R
theorem least_eq {ws:List Bool} {n m:Nat} (h1:ws[n]?=some true) (h2:∀j,j<n→ws[j]?≠some true) (k1:ws[m]?=some true) (k2:∀j,j<m→ws[j]?≠some true):n=m:=by
 rcases Nat.lt_trichotomy n m with h|h|h
 ·exact absurd h1 (k2 n h)
 ·exact h
 exact absurd k1 (h2 m h)
theorem HRuns.det {P:Prg} {f:Nat} {h:List Int} {ws:List Bool} {R S:HRes} (hR:HRuns P f h ws R):HRuns P f h ws S→R=S:=by
 induction hR with
 |done hd=>
  intro hS;cases hS with
  |done _=>rfl
  |bad k1=>exact absurd k1 (hd _)
  |join k1=>exact absurd k1 (hd _)
  |step k1=>exact absurd k1 (hd _)
 |bad h1 h2 h3 h4 h5 h6=>
  intro hS;cases hS with
  |done hd=>exact absurd h1 (hd _)
  |bad k1 k2 k3 k4 k5 k6=>
   have e:=least_eq h1 h2 k1 k2;subst e;rw[h3] at k3;injection k3 with k3;subst k3
   rw[h4] at k4;injection k4 with k4;subst k4
   rw[h5] at k5;injection k5 with k5 k5';subst k5
   rfl
  |join k1 k2 k3 k4 k5 k6=>
   have e:=least_eq h1 h2 k1 k2;subst e;rw[h3] at k3;injection k3 with k3;subst k3
   rw[h4] at k4;injection k4 with k4;subst k4
   rw[h5] at k5;injection k5 with k5 k5'
   exact absurd k5 h6
  |step k1 k2 k3 k4 k5 k6 k7=>
   have e:=least_eq h1 h2 k1 k2;subst e;rw[h3] at k3;injection k3 with k3;subst k3
   rw[h4] at k4;injection k4 with k4;subst k4
   rw[h5] at k5;injection k5 with k5 k5'
   exact absurd k5 h6
 |join h1 h2 h3 h4 h5 h6=>
  intro hS;cases hS with
  |done hd=>exact absurd h1 (hd _)
  |bad k1 k2 k3 k4 k5 k6=>
   have e:=least_eq h1 h2 k1 k2;subst e;rw[h3] at k3;injection k3 with k3;subst k3
   rw[h4] at k4;injection k4 with k4;subst k4
   rw[h5] at k5;injection k5 with k5 k5'
   exact absurd k5.symm k6
  |join k1 k2 k3 k4 k5 k6=>
   have e:=least_eq h1 h2 k1 k2;subst e;rfl
  |step k1 k2 k3 k4 k5 k6 k7=>
   have e:=least_eq h1 h2 k1 k2;subst e;rw[h3] at k3;injection k3 with k3;subst k3
   rw[h4] at k4;injection k4 with k4;subst k4
   rw[h5] at k5;injection k5 with k5 k5';subst k5'
   rw[h6] at k6;cases k6
 |step h1 h2 h3 h4 h5 h6 h7 ih=>
  intro hS;cases hS with
  |done hd=>exact absurd h1 (hd _)
  |bad k1 k2 k3 k4 k5 k6=>
   have e:=least_eq h1 h2 k1 k2;subst e;rw[h3] at k3;injection k3 with k3;subst k3
   rw[h4] at k4;injection k4 with k4;subst k4
   rw[h5] at k5;injection k5 with k5 k5'
   exact absurd k5.symm k6
  |join k1 k2 k3 k4 k5 k6=>
   have e:=least_eq h1 h2 k1 k2;subst e;rw[h3] at k3;injection k3 with k3;subst k3
   rw[h4] at k4;injection k4 with k4;subst k4
   rw[h5] at k5;injection k5 with k5 k5';subst k5'
   rw[h6] at k6;cases k6
  |step k1 k2 k3 k4 k5 k6 k7=>
   have e:=least_eq h1 h2 k1 k2;subst e;rw[h3] at k3;injection k3 with k3;subst k3
   rw[h4] at k4;injection k4 with k4;subst k4
   rw[h5] at k5;injection k5 with k5 k5';subst k5'
   rw[h6] at k6;injection k6 with k6;injection k6 with k6 k6';subst k6 k6'
   exact ih k7
def waits (ws:List Bool):Nat:=ws.countP fun x=>x
def blanks (h:List Int):Nat:=h.countP (·= -1)
def left (h:List Int) (ws:List Bool):Nat:=2*blanks h+waits ws
theorem countP_set {α:Type} (p:α→Bool) (l:List α) (n:Nat) (x y:α) (h:l[n]?=some x):(l.set n y).countP p+(if p x then 1 else 0)=l.countP p+(if p y then 1 else 0):=by
 induction l generalizing n with
 |nil=>simp at h
 |cons a l ih=>
  cases n with
  |zero=>
   simp only[List.getElem?_cons_zero,Option.some.injEq] at h;subst h;rw[List.set_cons_zero,List.countP_cons,List.countP_cons];omega
  |succ n=>
   rw[List.getElem?_cons_succ] at h;rw[List.set_cons_succ,List.countP_cons,List.countP_cons];have:=ih n h;omega
theorem waits_off {ws:List Bool} {n:Nat} (h:ws[n]?=some true):waits (ws.set n false)+1=waits ws:=by
 have:=countP_set (fun x=>x) ws n true false h;simpa [waits] using this
theorem spread_left {b:Int} (hb:b≠ -1) {l:List Nat} {h h':List Int} {ws ws':List Bool} (hl:h.length=ws.length) (e:spread b l h ws=some (h',ws')):left h' ws'≤left h ws∧h'.length=h.length∧ws'.length=ws.length:=by
 induction l generalizing h ws with
 |nil=>
  unfold spread at e;injection e with e;injection e with e1 e2
  subst e1 e2;exact ⟨Nat.le_refl _,rfl,rfl⟩
 |cons x l ih=>
  unfold spread at e;by_cases h1:h[x]?=some (-1)
  ·rw[if_pos h1] at e;have h2:=ih (by rw[List.length_set,List.length_set];exact hl) e
   rw[List.length_set,List.length_set] at h2;have hx:=(List.getElem?_eq_some_iff.1 h1).1;obtain ⟨u,hu⟩:∃u,ws[x]?=some u:=⟨_,List.getElem?_eq_getElem (by omega)⟩
   have c1:=countP_set (·=(-1:Int)) h x (-1) b h1;have c2:=countP_set (fun x=>x) ws x u true hu;refine ⟨?_,h2.2.1,h2.2.2⟩;have h3:=h2.1;unfold left blanks waits at h3 ⊢;simp only[hb,decide_true,if_true,decide_false,Bool.false_eq_true,if_false] at c1;cases u
   ·simp only[Bool.false_eq_true,if_false,if_true] at c2;omega
   simp only[if_true] at c2;omega
  rw[if_neg h1] at e;by_cases h2:h[x]?=some b
  ·rw[if_pos h2] at e;exact ih hl e
  rw[if_neg h2] at e;cases e
end
end
section
theorem headW_one {P:Program} {ops:Array Oper} {Q:Exit→Act→World→Prop} {S:World→Prop} {n:Nat} {L:Array Bool→Act→World→Prop} {f:Nat} {listed:Array Bool} {a:Act} {w:World} (i:Nat) {o:Oper} (hi:ops[i]?=some o) (hin:i<n) (hr:Region.ready .any ops listed=[i]) (hw:Region.wanted o (yielded ops a.tmps)=true)
  (h:∀K:Act→World→Prop,Shut (∀a' w',S w'→(S w'→HeadW P ops Q S n L f (listed.setIfInBounds i true) a' w')→K a' w')→Oper.wp P o a w K Q):HeadW P ops Q S n L (f+1) listed a w:=
 HeadW.one i hi hin hr fun K hK=>by rw[if_pos hw];exact h K hK
theorem headW_two {P:Program} {ops:Array Oper} {Q:Exit→Act→World→Prop} {S:World→Prop} {n:Nat} {L:Array Bool→Act→World→Prop} {f:Nat} {listed:Array Bool} {a:Act} {w:World} (i j:Nat) {oi oj:Oper} (hi:ops[i]?=some oi) (hj:ops[j]?=some oj) (hin:i<n) (hjn:j<n) (hr:Region.ready .any ops listed=[i,j])
  (hwi:Region.wanted oi (yielded ops a.tmps)=true) (hwj:Region.wanted oj (yielded ops a.tmps)=true)
  (h1:∀K:Act→World→Prop,Shut (∀a' w',S w'→(S w'→HeadW P ops Q S n L f (listed.setIfInBounds i true) a' w')→K a' w')→Oper.wp P oi a w K Q)
  (h2:∀K:Act→World→Prop,Shut (∀a' w',S w'→(S w'→HeadW P ops Q S n L f (listed.setIfInBounds j true) a' w')→K a' w')→Oper.wp P oj a w K Q):HeadW P ops Q S n L (f+1) listed a w:=fun inv=>by
 refine ⟨fun h0=>(by rw[hr] at h0;cases h0),fun k hk=>?_⟩
 have hir:i∈Region.ready .any ops listed:=by rw[hr];simp
 have hjr:j∈Region.ready .any ops listed:=by rw[hr];simp
 rw[hr] at hk
 have hk2:k=i∨k=j:=by simpa using hk
 rcases hk2 with rfl|rfl
 ·exact ⟨hin,wpOp_step hi fun K' hK=>by rw[if_pos hwi];exact h1 K' fun a' w' hS hW=>hK a' w' ⟨hS,hW hS (inv.set hir hin)⟩⟩
 ·exact ⟨hjn,wpOp_step hj fun K' hK=>by rw[if_pos hwj];exact h2 K' fun a' w' hS hW=>hK a' w' ⟨hS,hW hS (inv.set hjr hjn)⟩⟩
end
section
variable {P:Program} {ops:Array Oper} {md:Region.Mode} {S:World→Prop} {Q:Exit→Act→World→Prop}
theorem headH_firstA {n i:Nat} {oi:Oper} {v:Value} {L:Array Bool→Act→World→Prop} (hi:ops[i]?=some oi) (hsel:∀(j:Nat) (o:Oper) cs b,ops[j]?=some o→o.op≠ .select cs b)
  (hQ:∀c a w,Q (.panic c) (a.put oi.dst v) w→Q (.panic c) a w) (hn:n=ops.size)
  (hdone:∀listed a w,L listed a w→∀j∈Region.ready md ops listed,n≤j):
  ∀(f:Nat) (listed:Array Bool) (a:Act) (w:World),HeadInv md ops n listed→
   (∀j oj,ops[j]?=some oj→j≠i→listed.getD j true=false→(∀e∈oj.after,Region.binds md e=true→e.on≠i)→oi.apart ops oj=true)→
   i∈Region.ready md ops listed→YieldsIf P ops S oi v a→S w→
   headH P md ops Q S n L f (listed.setIfInBounds i true) (a.put oi.dst v) w→headH P md ops Q S n L (f+1) listed a w:=by
 have hlt:∀(listed:Array Bool) (j:Nat),j∈Region.ready md ops listed→j<n:=fun listed j hj=>by
  obtain ⟨_,oj,hoj,_⟩:=mem_ready.1 hj;rw[hn];exact (Array.getElem?_eq_some_iff.1 hoj).1
 intro f
 induction f with
 |zero=>
  intro listed a w inv _ hr hy hS H;refine ⟨fun h=>(by rw[h] at hr;cases hr),fun j hj=>?_⟩
  have hjn:=hlt listed j hj;refine ⟨hjn,?_⟩;by_cases hji:j=i
  ·subst hji;exact hy.wpOp hi hS ⟨hS,H⟩
  have:=hdone _ _ _ H j (ready_mono hj hji);omega
 |succ f ih=>
  intro listed a w inv hfree hr hy hS H;refine ⟨fun h=>(by rw[h] at hr;cases hr),fun j hj=>?_⟩
  have hjn:=hlt listed j hj;refine ⟨hjn,?_⟩;by_cases hji:j=i
  ·subst hji;exact hy.wpOp hi hS ⟨hS,H⟩
  have h1:=(H.2 j (ready_mono hj hji)).2;have hun:=(mem_ready.1 hr).1;obtain ⟨hjun,oj,hoj,hall⟩:=mem_ready.1 hj
  have hnot:∀e∈oj.after,Region.binds md e=true→e.on≠i:=fun e he hb heq=>by
   have h1:=hall e he hb;rw[heq,getD_both hun] at h1;cases h1
  have h2:=wpOp_putIf hoj (hfree j oj hoj hji hjun hnot) (fun cs b=>hsel i oi cs b hi) (fun cs b=>hsel j oj cs b hoj) hQ hy h1
  have hfree':∀k ok,ops[k]?=some ok→k≠i→(listed.setIfInBounds j true).getD k true=false→
    (∀e∈ok.after,Region.binds md e=true→e.on≠i)→oi.apart ops ok=true:=fun k ok hk hki hun hno=>by
   refine hfree k ok hk hki ?_ hno
   by_cases hjk:j=k
   ·subst hjk;exact hjun
   ·rw[getD_set_ne true hjk] at hun;exact hun
  refine wpOp_mono (fun a' w' h3=>⟨h3.2.1,ih (listed.setIfInBounds j true) a' w' (inv.set hj hjn) hfree' (ready_mono hr (Ne.symm hji)) h3.1 h3.2.1 ?_⟩) h2;rw[Array.setIfInBounds_comm _ _ hji];exact h3.2.2
theorem HeadW.takeA {n:Nat} {L:Array Bool→Act→World→Prop} {f:Nat} {listed:Array Bool} {a:Act} {w:World} (i:Nat) {oi:Oper} {v:Value} (hi:ops[i]?=some oi) (hsel:Region.noSelect ops=true)
  (hn:n=ops.size) (hin:i<n) (hdone:∀listed a w,L listed a w→∀j∈Region.ready .any ops listed,n≤j)
  (hf:Region.free .any ops listed i=true) (hr:(Region.ready .any ops listed).contains i=true) (hQ:∀c a w,Q (.panic c) (a.put oi.dst v) w→Q (.panic c) a w) (hS:S w) (hy:YieldsIf P ops S oi v a)
  (h:HeadW P ops Q S n L f (listed.setIfInBounds i true) (a.put oi.dst v) w):HeadW P ops Q S n L (f+1) listed a w:=fun inv=>
 headH_firstA hi (Region.noSelect_spec hsel) hQ hn hdone f listed a w inv (Region.free_spec hi hf) (by simpa using hr) hy hS (h (inv.set (by simpa using hr) hin))
section
open Go.RowKit
theorem hwA {P:Program} {ops:Array Oper} {S:World→Prop} {Q:Exit→Act→World→Prop} {n:Nat} {L:Array Bool→Act→World→Prop} {f:Nat} {listed:Array Bool} {a:Act} {w:World} (i:Nat) {oi:Oper} (v:Value) (hS:S w)
  (h:HeadW P ops Q S n L f (listed.setIfInBounds i true) (a.put oi.dst v) w) (hi:ops[i]?=some oi:=by exact rfl) (hsel:Region.noSelect ops=true:=by kernel_rfl)
  (hn:n=ops.size:=by exact rfl) (hin:i<n:=by decide) (hdone:∀listed a w,L listed a w→∀j∈Region.ready .any ops listed,n≤j:=by exact fun _ _ _ hL=>seqB_ready hL.1)
  (hf:Region.free .any ops listed i=true:=by kernel_rfl) (hr:(Region.ready .any ops listed).contains i=true:=by kernel_rfl) (hQ:∀c a w,Q (.panic c) (a.put oi.dst v) w→Q (.panic c) a w:=by exact fun _ _ _ h=>h)
  (hu:Region.wanted oi (yielded ops a.tmps)=true:=by kernel_rfl) (hy:∀w,S w→(execOp a.eval oi).run P w= .ok (.value v) w:=by intro w hSw;rw[HSd.out] at hSw;go_split_ands;go_simp):HeadW P ops Q S n L (f+1) listed a w:=
 HeadW.takeA i hi hsel hn hin hdone hf hr hQ hS (.inl ⟨hu,hy⟩) h
theorem hwK {P:Program} {ops:Array Oper} {S:World→Prop} {Q:Exit→Act→World→Prop} {n:Nat} {L:Array Bool→Act→World→Prop} {f:Nat} {listed:Array Bool} {a:Act} {w:World} (i:Nat) {oi:Oper} (v:Value) (hS:S w)
  (h:HeadW P ops Q S n L f (listed.setIfInBounds i true) (a.put oi.dst v) w) (hi:ops[i]?=some oi:=by exact rfl) (hsel:Region.noSelect ops=true:=by kernel_rfl)
  (hs:Region.sinkB .any ops n=true:=by kernel_rfl) (hc:Region.chainB .any ops n=true:=by kernel_rfl) (hn:n<ops.size:=by decide) (hin:i<n:=by decide) (hdone:∀listed a w,L listed a w→∀j∈Region.ready .any ops listed,n≤j:=by exact fun _ _ _ hL=>seqB_ready hL.1)
  (hf:Region.free .any ops listed i=true:=by kernel_rfl) (hr:(Region.ready .any ops listed).contains i=true:=by kernel_rfl) (hQ:∀c a w,Q (.panic c) (a.put oi.dst v) w→Q (.panic c) a w:=by exact fun _ _ _ h=>h)
  (hu:Region.wanted oi (yielded ops a.tmps)=true:=by kernel_rfl) (hy:∀w,S w→(execOp a.eval oi).run P w= .ok (.value v) w:=by intro w hSw;rw[HSd.out] at hSw;go_split_ands;go_simp):HeadW P ops Q S n L (f+1) listed a w:=
 HeadW.take i hi hsel hs hc hn hin hdone hf hr hQ hS (.inl ⟨hu,hy⟩) h
theorem hwO {P:Program} {ops:Array Oper} {Q:Exit→Act→World→Prop} {S:World→Prop} {n:Nat} {L:Array Bool→Act→World→Prop} {f:Nat} {listed:Array Bool} {a:Act} {w:World} (i:Nat) {o:Oper}
  (h:∀K:Act→World→Prop,Shut (∀a' w',S w'→(S w'→HeadW P ops Q S n L f (listed.setIfInBounds i true) a' w')→K a' w')→Oper.wp P o a w K Q)
  (hi:ops[i]?=some o:=by exact rfl) (hin:i<n:=by decide) (hr:Region.ready .any ops listed=[i]:=by kernel_rfl) (hw:Region.wanted o (yielded ops a.tmps)=true:=by kernel_rfl):HeadW P ops Q S n L (f+1) listed a w:=
 headW_one i hi hin hr hw h
theorem hkB {n:Nat} {w1:World} {H K:Act→World→Prop} (hK:Shut (∀a' w',Below n w1 w'→(Below n w1 w'→H a' w')→K a' w')) {a':Act} {w':World} (h:Below n w1 w'→H a' w')
 (hb:Below n w1 w':=by repeat (first|exact Below.refl _ _|refine Below.alloc ?_ (by simp;try omega) _|refine below_drewN ?_ 1)):K a' w':=hK.out _ _ hb h
end
end
end Go.Proofs.Ytcmpmhlcfalbhaa
