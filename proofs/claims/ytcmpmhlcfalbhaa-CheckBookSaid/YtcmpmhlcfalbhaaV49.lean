import Derived.Test.YtcmpmhlcfalbhaaV48
import Derived.Test.YtcmpmhlcfalbhaaV09
namespace Go.Proofs.Ytcmpmhlcfalbhaa
open Go.RowKit
structure MineR (w:World) (base:Nat) (hs:List FunM):Prop where
 code:∀f∈hs,Own w base 45 2 f.A f.code.length f.c (f.code.flatMap insCells)
 apart:∀(i j:Nat) (f g:FunM),hs[i]?=some f→hs[j]?=some g→i≠j→∀b,f.A.map (·.block)=some b→g.A.map (·.block)≠some b
theorem MineR.nil (w:World) (base:Nat):MineR w base []:=⟨(fun f h=>by cases h),(fun i j f g h=>by cases h)⟩
theorem MineR.only {S:Nat→Prop} {w w':World} {base:Nat} {hs:List FunM} (h:MineR w base hs) (ho:Only S w w') (hS:∀f∈hs,∀b,f.A.map (·.block)=some b→¬ S b):MineR w' base hs:=
 ⟨fun f hf=>Own.only (h.code f hf) ho fun b o e=>hS f hf b (by rw[e];rfl),h.apart⟩
theorem MineR.below {w w':World} {base:Nat} {hs:List FunM} (h:MineR w base hs) (hb:Below w.heap.size w w'):MineR w' base hs:=h.only (S:=fun _=>False) (Only.of_fresh hb) fun _ _ _ _ h=>h
theorem MineR.mono {w:World} {base base':Nat} {hs:List FunM} (h:MineR w base hs) (hb:base'≤base):MineR w base' hs:=⟨fun f hf=>(h.code f hf).mono hb,h.apart⟩
theorem MineR.push {w:World} {base base2:Nat} {hs:List FunM} (h:MineR w base hs) {x:FunM} (hx:Own w base2 45 2 x.A x.code.length x.c (x.code.flatMap insCells)) (hb:base≤base2) (hlt:∀f∈hs,∀b,f.A.map (·.block)=some b→b<base2):MineR w base (hs++[x]):=by
 have hxb:∀b,x.A.map (·.block)=some b→base2≤b:=fun b e=>(Own.row hx b e).1;refine ⟨fun f hf=>?_,fun i j f g hi hj hij b hb1 hb2=>?_⟩
 ·rw[List.mem_append,List.mem_singleton] at hf;rcases hf with hf|rfl
  ·exact h.code f hf
  exact hx.mono hb
 have key:∀(k:Nat) (y:FunM),(hs++[x])[k]?=some y→hs[k]?=some y∨(k=hs.length∧y=x):=by
  intro k y hk;by_cases h1:k<hs.length
  ·rw[List.getElem?_append_left h1] at hk;exact .inl hk
  rw[List.getElem?_append_right (by omega)] at hk
  obtain h2|h2:k-hs.length=0∨0<k-hs.length:=by omega
  ·rw[h2] at hk;injection hk with hk
   exact .inr ⟨by omega,hk.symm⟩
  rw[List.getElem?_eq_none (by rw[List.length_singleton];exact h2)] at hk
  cases hk
 rcases key i f hi with h1|⟨h1,rfl⟩
 ·rcases key j g hj with h2|⟨h2,rfl⟩
  ·exact h.apart i j f g h1 h2 hij b hb1 hb2
  have:=hlt f (List.mem_of_getElem? h1) b hb1;have:=hxb b hb2;omega
 rcases key j g hj with h2|⟨h2,rfl⟩
 ·have:=hlt g (List.mem_of_getElem? h2) b hb2;have:=hxb b hb1;omega
 omega
theorem MineR.lt {w:World} {base:Nat} {hs:List FunM} (h:MineR w base hs):∀f∈hs,∀b,f.A.map (·.block)=some b→base≤b∧b<w.heap.size:=fun f hf b e=>Own.row (h.code f hf) b e
structure PrgMine (w:World) (base:Nat) (q:PrgM):Prop where
 data:OwnB w base q.AD q.data.length q.cD q.data
 funs:Own w base 43 4 q.AF q.fs.length q.cF (q.fs.flatMap funCells)
 row:MineR w base q.fs
theorem PrgMine.only {S:Nat→Prop} {w w':World} {base:Nat} {q:PrgM} (h:PrgMine w base q) (ho:Only S w w') (hS:∀b,base≤b→b<w.heap.size→¬ S b):PrgMine w' base q:=
 ⟨Own.only h.data ho fun b o e=>hS b (Own.lt h.data b o e).1 (Own.lt h.data b o e).2.1,Own.only h.funs ho fun b o e=>hS b (Own.lt h.funs b o e).1 (Own.lt h.funs b o e).2.1,
  h.row.only ho fun f hf b e=>hS b (h.row.lt f hf b e).1 (h.row.lt f hf b e).2⟩
theorem PrgMine.below {w w':World} {base:Nat} {q:PrgM} (h:PrgMine w base q) (hb:Below w.heap.size w w'):PrgMine w' base q:=h.only (S:=fun _=>False) (Only.of_fresh hb) fun _ _ _ h=>h
theorem PrgMine.mono {w:World} {base base':Nat} {q:PrgM} (h:PrgMine w base q) (hb:base'≤base):PrgMine w base' q:=⟨h.data.mono hb,h.funs.mono hb,h.row.mono hb⟩
structure PrgOk (p:Prg):Prop where
 dlen:p.data.length≤140737488351232
 flen:p.fs.length≤2932031007402
 m1: -9223372036854775808≤p.mem
 m2:p.mem≤9223372036854775807
 fs:∀f∈p.fs,(∀i∈f.code,InsOk i)∧f.code.length≤8796093021952∧ -9223372036854775808≤f.args∧f.args≤9223372036854775807∧ -9223372036854775808≤f.locals∧f.locals≤9223372036854775807∧ -9223372036854775808≤f.results∧f.results≤9223372036854775807
theorem PrgAt.ok {w:World} {p:PrgM} (h:PrgAt w p):PrgOk p.plain:=by
 refine ⟨h.dlen,?_,h.m1,h.m2,fun f hf=>?_⟩
 ·show (p.fs.map FunM.plain).length≤_
  rw[List.length_map];exact h.flen
 obtain ⟨g,hg,rfl⟩:=List.mem_map.1 hf;have H:=h.funs g hg;exact ⟨H.ok,H.len,H.a1,H.a2,H.l1,H.l2,H.r1,H.r2⟩
theorem PrgMine.at_ {w:World} {base:Nat} {q:PrgM} (h:PrgMine w base q) (hp:PrgOk q.plain):PrgAt w q:=by
 have hfl:q.fs.length≤2932031007402:=by
  have h1:=hp.flen;change (q.fs.map FunM.plain).length≤_ at h1
  rwa [List.length_map] at h1
 refine ⟨Sl.of_own h.data,hp.dlen,RV.of_own h.funs,fun e=>own_nil h.funs e,hfl,fun f hf=>?_,hp.m1,hp.m2⟩;obtain ⟨h1,h2,h3,h4,h5,h6,h7,h8⟩:=hp.fs f.plain (List.mem_map.2 ⟨f,hf,rfl⟩);exact ⟨RV.of_own (h.row.code f hf),h1,fun e=>own_nil (h.row.code f hf) e,h2,h3,h4,h5,h6,h7,h8⟩
def TwinPost (w:World) (p:PrgM) (e:Ending) (w':World):Prop:=∃q,e= .returned q.val∧q.plain=p.plain∧PrgMine w' w.heap.size q∧Below w.heap.size w w'
end Go.Proofs.Ytcmpmhlcfalbhaa
