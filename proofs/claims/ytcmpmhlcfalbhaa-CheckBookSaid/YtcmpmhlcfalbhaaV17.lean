import Derived.Test.YtcmpmhlcfalbhaaV16
import Derived.Test.YtcmpmhlcfalbhaaV08
import Derived.Test.YtcmpmhlcfalbhaaV09
namespace Go.Proofs.Ytcmpmhlcfalbhaa
open Go.RowKit
structure QueI (w:World) (B:Nat) (A:Option Addr) (n c:Nat) (xs:List Int):Prop where
 len:xs.length=n
 out:(A=none∧n=0∧c=0)∨∃g k cur ys,A=some ⟨g,k,none⟩∧B≤g∧w.heap[g]?=some (.cells cur 3 (0,0))∧ys.length=k∧n≤c∧k+c≤cur.size∧cur.toList.take (k+n)=ys++xs.map iv
section
variable {w w':World} {B n c:Nat} {A:Option Addr} {xs:List Int}
theorem QueI.of_own (h:OwnI w B A n c xs):QueI w B A n c xs:=by
 have hl:xs.length=n:=by have:=h.1;simpa using this
 refine ⟨hl,?_⟩;rcases h.2 with ⟨hv,h0⟩|⟨g,cap,cur,hv,hB,hh,hnc,-,hcs,htake⟩
 ·injection hv with e1 e2 e3
  exact .inl ⟨e1,h0,e3⟩
 injection hv with e1 e2 e3
 subst e1 e3;exact .inr ⟨g,0,cur,[],rfl,hB,hh,rfl,hnc,by omega,by rw[Nat.zero_add,List.nil_append, ←htake,Nat.mul_one]⟩
theorem QueI.lt (h:QueI w B A n c xs):∀b,A.map (·.block)=some b→B≤b∧b<w.heap.size:=by
 intro b e;rcases h.out with ⟨h1,-,-⟩|⟨g,k,cur,ys,h1,h2,h3,-⟩
 ·rw[h1] at e;cases e
 rw[h1] at e;have e2:g=b:=Option.some.inj e;subst e2;exact ⟨h2,(Array.getElem?_eq_some_iff.1 h3).1⟩
theorem QueI.kept {row:Option Nat} (h:QueI w B A n c xs) (hg:w.grownBy w' row) (hne:∀b,A.map (·.block)=some b→some b≠row):QueI w' B A n c xs:=by
 refine ⟨h.len,?_⟩;rcases h.out with h0|⟨g,k,cur,ys,h1,h2,h3,h4⟩
 ·exact .inl h0
 exact .inr ⟨g,k,cur,ys,h1,h2,by rw[hg.block g (Array.getElem?_eq_some_iff.1 h3).1 (hne g (by rw[h1];rfl))];exact h3,h4⟩
theorem QueI.only {S:Nat→Prop} (h:QueI w B A n c xs) (ho:Only S w w') (hne:∀b,A.map (·.block)=some b→¬ S b):QueI w' B A n c xs:=by
 refine ⟨h.len,?_⟩;rcases h.out with h0|⟨g,k,cur,ys,h1,h2,h3,h4⟩
 ·exact .inl h0
 exact .inr ⟨g,k,cur,ys,h1,h2,by rw[ho.block g (Array.getElem?_eq_some_iff.1 h3).1 (hne g (by rw[h1];rfl))];exact h3,h4⟩
theorem QueI.mono {B2:Nat} (h:QueI w B A n c xs) (hB:B2≤B):QueI w B2 A n c xs:=by
 refine ⟨h.len,?_⟩;rcases h.out with h0|⟨g,k,cur,ys,h1,h2,h3⟩
 ·exact .inl h0
 exact .inr ⟨g,k,cur,ys,h1,Nat.le_trans hB h2,h3⟩
theorem QueI.head {x:Int} (h:QueI w B A n c (x::xs)):∃g k,A=some ⟨g,k,none⟩∧w.cell? ⟨g,k,none⟩=some (.int .i64 x)∧g<w.heap.size∧n=xs.length+1∧n≤c:=by
 have hl:=h.len;rcases h.out with ⟨-,h0,-⟩|⟨g,k,cur,ys,h1,h2,h3,h4,h5,h6,h7⟩
 ·rw[h0] at hl;cases hl
 refine ⟨g,k,h1,?_,(Array.getElem?_eq_some_iff.1 h3).1,by simpa using hl.symm,h5⟩
 rw[cell_of_row w g k cur _ _ h3];have e:(cur.toList.take (k+n))[k]?=some (iv x):=by rw[h7,List.getElem?_append_right (by omega),h4,Nat.sub_self];rfl
 rw[List.getElem?_take] at e;split at e
 ·simpa using e
 cases e
theorem QueI.tail {x:Int} (h:QueI w B A n c (x::xs)):∃A2,(Instr.slice 29 (.slice A n c) (some (.int .i64 1)) none none).run Try.prog w= .ok (.slice A2 (n-1) (c-1)) w∧QueI w B A2 (n-1) (c-1) xs∧A2.map (·.block)=A.map (·.block):=by
 have hl:=h.len;rw[List.length_cons] at hl;have hs:Try.prog.underlying 29=some (.slice (Try.prog.elem 29)):=by kernel_rfl
 have hz:(sizeOf (Try.prog.elem 29)).run Try.prog w= .ok 1 w:=by kernel_rfl
 have hrun:(Instr.slice 29 (.slice A n c) (some (.int .i64 1)) none none).run Try.prog w= .ok (sliced A 1 n c 1) w:=by
  rw[run_slice_l w _ _ _ _ hs _ _ (by decide) (by omega),hz,Result.andThen_ok]
  rfl
 refine ⟨_,hrun,?_,?_⟩
 ·refine ⟨by omega,?_⟩
  rcases h.out with ⟨-,h0,-⟩|⟨g,k,cur,ys,h1,h2,h3,h4,h5,h6,h7⟩
  ·omega
  subst h1;by_cases hc:c=1
  ·rw[if_pos hc];have hx0:xs=[]:=List.eq_nil_of_length_eq_zero (by omega)
   subst hx0;refine .inr ⟨g,k,cur,ys,rfl,h2,h3,h4,by omega,by omega,?_⟩
   have e:=congrArg (List.take k) h7;rw[List.take_take,Nat.min_eq_left (by omega)] at e
   rw[show k+(n-1)=k by omega,e, ←h4,List.take_left',List.map_nil,List.append_nil]
   rfl
  rw[if_neg hc];refine .inr ⟨g,k+1,cur,ys++[iv x],by rw[Option.map_some,Addr.add_lit],h2,h3,by simp[h4],by omega,by omega,?_⟩
  rw[show k+1+(n-1)=k+n by omega,h7]
  simp
 by_cases hc:c=1
 ·rw[if_pos hc]
 rw[if_neg hc];cases A with
 |none=>rfl
 |some a=>show some (a.add 1).block=some a.block;unfold Addr.add;split<;>rfl
theorem QueI.app (h:QueI w B A n c xs) (ty:TypeId) {A':Option Addr} {m c':Nat} {us:List Int} (hr:RV w A' (us.map iv)) (hl:us.length=m) (h63:n+m≤1000000) (hB:B≤w.heap.size) (hnil:A'=none→m=0∧c'=0):
  ∃A2 c2 w',(Builtin.append_ #[29,29] ty #[.slice A n c,.slice A' m c']).run Try.prog w= .ok (.slice A2 (n+m) c2) w'∧QueI w' B A2 (n+m) c2 (xs++us)∧Only (fun b=>A.map (·.block)=some b) w w':=by
 have hmax:n+m≤maxLen:=by unfold maxLen;omega
 have h1c:∀u∈us.map iv,u.oneCell'=true:=fun u hu=>by
  obtain ⟨x,-,rfl⟩:=List.mem_map.1 hu;rfl
 have hl':(us.map iv).length=m*1:=by rw[List.length_map,Nat.mul_one];exact hl
 rcases h.out with ⟨rfl,rfl,rfl⟩|⟨g,k,cur,ys,rfl,h2,h3,h4,h5,h6,h7⟩
 ·have hx:xs=[]:=List.eq_nil_of_length_eq_zero h.len;subst hx;obtain ⟨A2,c2,w',e1,e2,e3,-⟩:=run_app eInt ty (Own.nil w B _ _) (c':=c') hr hl' h1c hmax (by omega) hB hnil
  exact ⟨A2,c2,w',e1,.of_own (by simpa using e2),Only.of_grown e3 fun b e=>e⟩
 ·obtain ⟨i,z,hi,hz,hsize,hby,hzs⟩:=eInt.hi;have ht:=eInt.ht;cases A' with
  |none=>
   obtain ⟨rfl,rfl⟩:=hnil rfl;have hu:us=[]:=List.eq_nil_of_length_eq_zero hl;subst hu;refine ⟨some ⟨g,k,none⟩,c,w,?_,by simpa using h,Only.refl _ _⟩
   simp[Builtin.append_,run_underlying ht,sizeOf,typeInfo,hi,Builtin.lenOf,h5,Builtin.firstCells,storeCells]
  |some a=>
   have hnews:∀j u,(us.map iv)[j]?=some u→w.cell? (a.add j)=some u:=by
    intro j u hu;rcases hr with e|⟨b,off,hA,_,hc⟩
    ·rw[e] at hu;simp at hu
    simp only[Option.some.injEq] at hA;subst hA;rw[addr_add];exact hc j u hu
   by_cases hroom:n+m≤c
   ·have hf:=run_firstCells_some (P:=Try.prog) w i.size m a m c' (us.map iv) (by rw[hsize];exact hl') hnews
    have hfit:k+n+(us.map iv).length≤cur.size:=by rw[List.length_map,hl];omega
    have hst:=run_storeCells_at Try.prog g (k+n*i.size) 3 (us.map iv) 0 cur w h3 (by rw[hsize];omega) h1c
    rw[hsize] at hst;simp only[Nat.add_zero,Nat.mul_one] at hst;refine ⟨some ⟨g,k,none⟩,c,w.setRow g (cur.toList.take (k+n)++us.map iv++cur.toList.drop (k+n+(us.map iv).length)).toArray,?_,⟨by rw[List.length_append,h.len,hl],.inr ⟨g,k,_,ys,rfl,h2,setRow_heap w g cur _ _ _ h3,h4,hroom,?_,?_⟩⟩,?_⟩
    ·rw[hsize] at hf;simp[Builtin.append_,run_underlying ht,sizeOf,typeInfo,hi,Builtin.lenOf,hroom,Addr.add_lit,hsize];rw[hf,Result.andThen_ok];simp[hst]
    ·simp only[List.size_toArray,List.length_append,List.length_take,List.length_drop,Array.length_toList];omega
    ·rw[h7,List.map_append, ←List.append_assoc]
     have e:(ys++xs.map iv++us.map iv).length=k+(n+m):=by
      have:=h.len;simp only[List.length_append,List.length_map];omega
     rw[←e];exact List.take_left
    exact Only.of_grown (row:=some g) ⟨rfl,rfl,rfl,by simp,fun q _ hq=>setRow_other w g q _ (fun e=>hq (by rw[e]))⟩ fun b e=>e
   have holds:∀j u,(xs.map iv)[j]?=some u→w.cell? ((⟨g,k,none⟩:Addr).add j)=some u:=by
    intro j u hu;rw[Addr.add_lit,cell_of_row w g (k+j) cur _ _ h3];have e:(cur.toList.take (k+n))[k+j]?=some u:=by rw[h7,List.getElem?_append_right (by omega),h4,Nat.add_sub_cancel_left];exact hu
    rw[List.getElem?_take] at e;split at e
    ·simpa using e
    cases e
   obtain ⟨v',w',e1,e2,e3⟩:=run_append_arg_grows (P:=Try.prog) w _ ty _ i z 1 8 ht hi hz hsize hby hzs (by decide) ⟨g,k,none⟩ n c (xs.map iv) (by rw[List.length_map,h.len,Nat.mul_one]) holds a m c' (us.map iv) hl' hnews (by omega) hmax (by omega)
   have hv:∃A2 c2,v'=Value.slice A2 (n+m) c2:=by
    rcases e2.2 with ⟨rfl,h0⟩|⟨g',cap,_,rfl,_⟩
    ·exact ⟨none,0,by rw[h0]⟩
    exact ⟨_,_,rfl⟩
   obtain ⟨A2,c2,rfl⟩:=hv;refine ⟨A2,c2,w',e1,(QueI.of_own (xs:=xs++us) (by rw[OwnI,List.map_append];exact e2)).mono hB,(Only.of_grown e3 fun b e=>by cases e)⟩
theorem QueI.ne_own {B2 n2 c2 gs:Nat} {e:TypeId} {vs:List Value} (h:QueI w B A n c xs) (h2:Own w B2 e 1 (some ⟨gs,0,none⟩) n2 c2 vs) (hne:3≠e):∀b,A.map (·.block)=some b→b≠gs:=by
 intro b eb e2;subst e2;rcases h.out with ⟨h1,-,-⟩|⟨g,k,cur,ys,h1,-,h3,-⟩
 ·rw[h1] at eb;cases eb
 rw[h1] at eb;have e3:g=b:=Option.some.inj eb;subst e3;rcases h2.2 with ⟨hv,-⟩|⟨g',cap,cur',hv,-,hh,-⟩
 ·injection hv with e4;cases e4
 injection hv with e4
 have e5:g=g':=by injection e4 with e4;injection e4
 subst e5;rw[h3] at hh;have e6:=Option.some.inj hh;injection e6 with _ e7
 exact hne e7
theorem own_none {e:TypeId} {s:Nat} {vs:List Value} (h:Own w B e s A n c vs) (hA:A=none):n=0∧c=0:=by
 rcases h.2 with ⟨hv,h0⟩|⟨g,cap,cur,hv,-⟩
 ·injection hv with _ e2 e3;exact ⟨h0,e3⟩
 injection hv with e1;rw[hA] at e1;cases e1
theorem wpList_que {ops:Array Oper} {rest:List Oper} {o:Oper} {a:Act} {Q:Exit→Act→World→Prop} (hgd:o.guard=none) (s x:Operand)
  (ho:o.op= .call {callee:=.builtin .append,args:=#[s,x],argTypes:=#[29,29]})
  (hs:a.eval s= .slice A n c) (h:QueI w B A n c xs) {A':Option Addr} {m c':Nat} {us:List Int} (hx:a.eval x= .slice A' m c') (hr:RV w A' (us.map iv)) (hl:us.length=m) (h63:n+m≤1000000) (hB:B≤w.heap.size) (hnil:A'=none→m=0∧c'=0)
  (hK:∀A2 c2 w',QueI w' B A2 (n+m) c2 (xs++us)→Only (fun b=>A.map (·.block)=some b) w w'→wpList Try.prog ops Q rest (a.put o.dst (.slice A2 (n+m) c2)) w'):wpList Try.prog ops Q (o::rest) a w:=by
 refine wpList_plain hgd fun K hK'=>?_
 obtain ⟨A2,c2,w',hrun,h2,h3⟩:=h.app o.type (c':=c') hr hl h63 hB hnil
 unfold Oper.wp execOp
 simp only[ho,resolve,invoke,builtin,Sem.run_bind,Sem.run_pure,Result.andThen_ok,List.map_toArray,List.map_cons,List.map_nil,hs,hx,hrun]
 exact hK' _ _ (hK A2 c2 w' h2 h3)
theorem wpList_tail {ops:Array Oper} {rest:List Oper} {o:Oper} {a:Act} {Q:Exit→Act→World→Prop} (hgd:o.guard=none) (s:Operand) (ho:o.op= .slice 29 s (some (.const (.int .i64 1))) none none)
  {x:Int} (hs:a.eval s= .slice A n c) (h:QueI w B A n c (x::xs))
  (hK:∀A2,QueI w B A2 (n-1) (c-1) xs→A2.map (·.block)=A.map (·.block)→wpList Try.prog ops Q rest (a.put o.dst (.slice A2 (n-1) (c-1))) w):wpList Try.prog ops Q (o::rest) a w:=by
 refine wpList_plain hgd fun K hK'=>?_
 obtain ⟨A2,hrun,h2,h3⟩:=h.tail
 unfold Oper.wp execOp
 have hsl:Try.prog.underlying 29=some (.slice (Try.prog.elem 29)):=by kernel_rfl
 have hrun2:(Instr.sliceAt 29 (.slice A n c) (some (a.eval (.const (.int .i64 1)))) none none).run Try.prog w= .ok (.slice A2 (n-1) (c-1)) w:=(run_sliceAt_slice _ _ _ _ _ _ hsl).trans hrun
 rw[ho]
 show Oper.upon Try.prog o a K Q (Sem.run Try.prog (do let v ←Instr.sliceAt 29 (a.eval s) (some (a.eval (.const (.int .i64 1)))) none none;pure (Next.value v)) w)
 rw[hs,Sem.run_bind,hrun2,Result.andThen_ok,Sem.run_pure]
 exact hK' _ _ (hK A2 h2 h3)
end
def lenS:Value→Nat
 | .slice _ n _=>n
 |_=>0
end Go.Proofs.Ytcmpmhlcfalbhaa
