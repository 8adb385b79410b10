import Derived.Test.YtcmpmhlcfalbhaaV31
import Derived.Test.YtcmpmhlcfalbhaaV49
import Derived.Test.YtcmpmhlcfalbhaaV16
namespace Go.Proofs.Ytcmpmhlcfalbhaa
section
section
variable {F C:Nat} {L:Int} {ins:Nat→Nat→Ins}
end
inductive InsC (F C:Nat) (lp:Bool) (i k:Nat):Ins→Int→Int→Int→List Int→Prop
 |size:lp=true→i+1=F→k=0→InsC F C lp i k ⟨13,0⟩ 0 0 1 [1]
 |loop:lp=true→i+1=F→k=1→InsC F C lp i k ⟨16,0⟩ 1 1 0 [0,2]
 |num:k+2=C→i+1=F→InsC F C lp i k ⟨3,7⟩ 0 0 1 [(k:Int)+1]
 |call:k+2=C→i+1<F→InsC F C lp i k ⟨17,(i:Int)+1⟩ 0 0 1 [(k:Int)+1]
 |ret:k+1=C→InsC F C lp i k ⟨18,0⟩ 1 1 0 []
 |nop:k+2<C→¬ (lp=true∧i+1=F∧(k=0∨k=1))→InsC F C lp i k ⟨0,0⟩ 0 0 0 [(k:Int)+1]
theorem ops_ok:(isOp 13=true∧mayB (kindN 13) 0=true)∧(isOp 16=true∧mayB (kindN 16) 0=true)∧(isOp 3=true∧mayB (kindN 3) 7=true)∧(isOp 18=true∧mayB (kindN 18) 0=true)∧(isOp 0=true∧mayB (kindN 0) 0=true)∧isOp 17=true∧isOp 14=true:=by decide+kernel
theorem most_34:mostL 3=4096∧mostL 4=64:=by decide+kernel
theorem mayB_4 {a:Int} (h0:0≤a) (h1:a<64):mayB 4 a=true:=by
 unfold mayB;rw[if_neg (by decide),if_neg (by decide),most_34.2]
 simp[h0,h1]
theorem InsC.good {F C i k:Nat} {lp:Bool} {x:Ins} {h t g:Int} {l:List Int} (H:InsC F C lp i k x h t g l) (hF:F≤64):insGood x:=by
 obtain ⟨o1,o2,o3,o4,o5,o6,-⟩:=ops_ok;cases H with
 |size=>exact o1
 |loop=>exact o2
 |num=>exact o3
 |call _ h2=>
  refine ⟨o6,?_⟩;show mayB (kindN 17) ((i:Int)+1)=true
  rw[kinds_of.2.2.2.1];exact mayB_4 (by omega) (by omega)
 |ret=>exact o4
 |nop=>exact o5
end
section
def hAt (F C:Nat) (lp:Bool) (i k:Nat):Int:=if k+1=C∨(lp=true∧i+1=F∧k=1) then 1 else 0
section
variable {F C i k:Nat} {L:Int} {lp:Bool} {x:Ins} {h t g:Int} {l:List Int}
theorem InsC.goes (H:InsC F C lp i k x h t g l):goesL x k=l:=by
 cases H with
 |size h1 h2 h3=>subst h3;rfl
 |loop h1 h2 h3=>subst h3;rfl
 |num=>rfl
 |call=>rfl
 |ret=>rfl
 |nop=>rfl
theorem InsC.at_ (H:InsC F C lp i k x h t g l) (hC:4≤C):h=hAt F C lp i k:=by
 unfold hAt;cases H with
 |size h1 h2 h3=>rw[if_neg (by omega)]
 |loop h1 h2 h3=>rw[if_pos (.inr ⟨h1,h2,h3⟩)]
 |num h1 h2=>rw[if_neg (by omega)]
 |call h1 h2=>rw[if_neg (by omega)]
 |ret h1=>rw[if_pos (.inl h1)]
 |nop h1 h2=>rw[if_neg (by
  rintro (h3|⟨h3,h4,h5⟩)
  ·omega
  exact h2 ⟨h3,h4,.inr h5⟩)]
theorem InsC.next (H:InsC F C lp i k x h t g l) (hC:4≤C):∀y∈l,0≤y∧y<(C:Int)∧hAt F C lp i y.toNat=h-t+g:=by
 intro y hy;unfold hAt;cases H with
 |size h1 h2 h3=>
  rw[List.mem_singleton.1 hy];exact ⟨by omega,by omega,by rw[if_pos (.inr ⟨h1,h2,rfl⟩)];rfl⟩
 |loop h1 h2 h3=>
  rcases List.mem_cons.1 hy with rfl|hy
  ·exact ⟨by omega,by omega,by rw[if_neg (by simp;omega)];rfl⟩
  rw[List.mem_singleton.1 hy];exact ⟨by omega,by omega,by rw[if_neg (by simp;omega)];rfl⟩
 |num h1 h2=>
  rw[List.mem_singleton.1 hy];exact ⟨by omega,by omega,by rw[if_pos (.inl (by omega))];rfl⟩
 |call h1 h2=>
  rw[List.mem_singleton.1 hy];exact ⟨by omega,by omega,by rw[if_pos (.inl (by omega))];rfl⟩
 |ret h1=>cases hy
 |nop h1 h2=>
  rw[List.mem_singleton.1 hy];refine ⟨by omega,by omega,?_⟩
  rw[if_neg (by
   rintro (h3|⟨h3,h4,h5⟩)
   ·omega
   exact h2 ⟨h3,h4,.inl (by omega)⟩)]
  rfl
theorem InsC.bnd (H:InsC F C lp i k x h t g l):0≤h∧h≤1∧0≤h-t+g∧h-t+g≤1:=by
 cases H<;>omega
end
section
variable {F C:Nat} {L:Int} {lp:Bool}
end
end
section
section
variable {F C:Nat} {L:Int} {lp:Bool}
end
end
section
open Go.RowKit
theorem flat_setC:∀(ls:List FunM) (i:Nat) (f g:FunM),ls[i]?=some f→funCells g=funCells f→(ls.set i g).flatMap funCells=ls.flatMap funCells:=by
 intro ls;induction ls with
 |nil=>intro i f g h;cases h
 |cons y ls ih=>
  intro i f g h e;cases i with
  |zero=>simp at h;subst h;rw[List.set_cons_zero,List.flatMap_cons,List.flatMap_cons,e]
  |succ i=>rw[List.set_cons_succ,List.flatMap_cons,List.flatMap_cons,ih i f g (by simpa using h) e]
theorem insCells_setC (ls:List Ins) (k:Nat) (x:Ins) (h:k<ls.length):((ls.flatMap insCells).set (k*2) (.int .i64 x.op)).set (k*2+1) (.int .i64 x.a)=(ls.set k x).flatMap insCells:=by
 induction ls generalizing k with
 |nil=>cases h
 |cons y ls ih=>
  cases k with
  |zero=>rfl
  |succ k=>
   rw[List.set_cons_succ,List.flatMap_cons,List.flatMap_cons, ←ih k (by simpa using h),show (k+1)*2=k*2+2 from by omega]
   rfl
theorem set_getC {α:Type} (ls:List α) (i j:Nat) (f g x:α) (hi:ls[i]?=some f) (h:(ls.set i g)[j]?=some x):(j=i∧x=g)∨(j≠i∧ls[j]?=some x):=by
 by_cases e:j=i
 ·subst e;rw[List.getElem?_set_self (List.getElem?_eq_some_iff.1 hi).1] at h;injection h with h
  exact .inl ⟨rfl,h.symm⟩
 rw[List.getElem?_set_ne (fun h=>e h.symm)] at h;exact .inr ⟨e,h⟩
theorem MineR.changeC {w w':World} {base i:Nat} {hs:List FunM} {f g:FunM} (h:MineR w base hs) (hi:hs[i]?=some f) (hA:g.A=f.A) (hg:Own w' base 45 2 g.A g.code.length g.c (g.code.flatMap insCells))
  (hk:∀j x,j≠i→hs[j]?=some x→Own w' base 45 2 x.A x.code.length x.c (x.code.flatMap insCells)):MineR w' base (hs.set i g):=by
 refine ⟨fun x hx=>?_,fun a b x y ha hb hab k hk1 hk2=>?_⟩
 ·obtain ⟨j,hj⟩:=List.mem_iff_getElem?.1 hx;rcases set_getC hs i j f g x hi hj with ⟨-,rfl⟩|⟨h1,h2⟩
  ·exact hg
  exact hk j x h1 h2
 ·rcases set_getC hs i a f g x hi ha with ⟨rfl,rfl⟩|⟨h1,h2⟩
  ·rcases set_getC hs a b f x y hi hb with ⟨rfl,rfl⟩|⟨h3,h4⟩
   ·exact hab rfl
   exact h.apart a b f y hi h4 hab k (by rw[←hA];exact hk1) hk2
  rcases set_getC hs i b f g y hi hb with ⟨rfl,rfl⟩|⟨h3,h4⟩
  ·exact h.apart a b x f h2 hi hab k hk1 (by rw[←hA];exact hk2)
  exact h.apart a b x y h2 h4 hab k hk1 hk2
theorem mine_codeC {w:World} {base:Nat} {q:PrgM} (h:PrgMine w base q) (hok:PrgOk q.plain) (i:Nat) (f:FunM) (hf:q.fs[i]?=some f) (gc:Nat) (hA:f.A=some ⟨gc,0,none⟩) (k:Nat) (hk:k<f.code.length) (x:Ins) (hx:InsOk x):
  ∃q':PrgM,q'.val=q.val∧q'.plain=⟨q.plain.mem,q.plain.data,q.plain.fs.set i ⟨f.args,f.locals,f.results,f.code.set k x⟩⟩∧q'.fs[i]?=some ⟨f.args,f.locals,f.results,f.A,f.c,f.code.set k x⟩∧PrgOk q'.plain∧PrgMine ((w.setCell ⟨gc,k*2,none⟩ (.int .i64 x.op)).setCell ⟨gc,k*2+1,none⟩ (.int .i64 x.a)) base q':=by
 have hO:Only (fun b=>b=gc) w ((w.setCell ⟨gc,k*2,none⟩ (.int .i64 x.op)).setCell ⟨gc,k*2+1,none⟩ (.int .i64 x.a)):=
  ((Only.refl (fun b=>b=gc) w).setCell (p:=⟨gc,k*2,none⟩) (.inl rfl) _).setCell (p:=⟨gc,k*2+1,none⟩) (.inl rfl) _
 have hfm:=List.mem_of_getElem? hf
 have hcode:=h.row.code f hfm
 have hil:=(List.getElem?_eq_some_iff.1 hf).1
 refine ⟨⟨q.mem,q.AD,q.cD,q.data,q.AF,q.cF,q.fs.set i ⟨f.args,f.locals,f.results,f.A,f.c,f.code.set k x⟩⟩,?_,(by unfold PrgM.plain;rw[List.map_set];rfl),List.getElem?_set_self hil,⟨hok.dlen,?_,hok.m1,hok.m2,fun g hg=>?_⟩,?_,?_,?_⟩
 ·dsimp only[PrgM.val];rw[List.length_set]
 ·have h1:=hok.flen;change (q.fs.map FunM.plain).length≤_ at h1
  show ((q.fs.set i _).map FunM.plain).length≤_
  rw[List.length_map] at h1 ⊢;rwa [List.length_set]
 ·obtain ⟨y,hy,rfl⟩:=List.mem_map.1 hg;obtain ⟨j,hj⟩:=List.mem_iff_getElem?.1 hy;rcases set_getC q.fs i j f _ y hf hj with ⟨-,rfl⟩|⟨-,h2⟩
  ·obtain ⟨h1,h2,h3⟩:=hok.fs f.plain (List.mem_map.2 ⟨f,hfm,rfl⟩);refine ⟨fun z hz=>?_,by show (f.code.set k x).length≤_;rw[List.length_set];exact h2,h3⟩
   rcases List.mem_or_eq_of_mem_set hz with hz|rfl
   ·exact h1 z hz
   exact hx
  exact hok.fs y.plain (List.mem_map.2 ⟨y,List.mem_of_getElem? h2,rfl⟩)
 ·exact Own.only h.data hO fun b o e e2=>own_ne h.data hcode (by decide) b (by rw[e];rfl) (by rw[hA,e2];rfl)
 ·have e:(q.fs.set i ⟨f.args,f.locals,f.results,f.A,f.c,f.code.set k x⟩).flatMap funCells=q.fs.flatMap funCells:=flat_setC q.fs i f _ hf (by simp only[funCells,List.length_set])
  show Own _ base _ 4 q.AF (q.fs.set i _).length q.cF ((q.fs.set i _).flatMap funCells)
  rw[e,List.length_set];exact Own.only h.funs hO fun b o e e2=>own_ne h.funs hcode (by decide) b (by rw[e];rfl) (by rw[hA,e2];rfl)
 ·refine h.row.changeC hf rfl ?_ fun j y hj hy=>?_
  ·show Own _ base _ 2 f.A (f.code.set k x).length f.c ((f.code.set k x).flatMap insCells)
   rw[List.length_set,hA, ←insCells_setC f.code k x hk];rw[hA] at hcode;exact own_set (own_set hcode (k*2) _) (k*2+1) _
  exact Own.only (h.row.code y (List.mem_of_getElem? hy)) hO fun b o e e2=>h.row.apart j i y f hy hf hj b (by rw[e];rfl) (by rw[hA,e2];rfl)
end
end Go.Proofs.Ytcmpmhlcfalbhaa
