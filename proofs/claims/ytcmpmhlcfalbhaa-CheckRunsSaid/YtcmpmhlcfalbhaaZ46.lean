import Derived.Test.YtcmpmhlcfalbhaaZ11
import Derived.Test.YtcmpmhlcfalbhaaZ43
import Derived.Test.YtcmpmhlcfalbhaaZ44
import Derived.Deep.Cut
import Derived.Test.YtcmpmhlcfalbhaaZ45
namespace Go.Proofs.Ytcmpmhlcfalbhaa
section
open Go.RowKit
def markF7:FunM:=⟨-7,0,0,none,0,[]⟩
def markI7:Ins:=⟨-7,0⟩
theorem own_short {w:World} {base size n c:Nat} {e:TypeId} {A:Option Addr} {vs us:List Value} (h:Own w base e size A (n+1) c (vs++us)) (hu:us.length=size):Own w base e size A n c vs:=by
 obtain ⟨hl,h2⟩:=h;rw[List.length_append,hu,Nat.add_mul,Nat.one_mul] at hl;have hvl:vs.length=n*size:=by omega
 refine ⟨hvl,?_⟩;rcases h2 with ⟨_,h0⟩|⟨g,cap,cur,hv,hg,hh,hnc,hcm,hcs,ht⟩
 ·omega
 injection hv with h1 h3 h4
 subst h4;refine .inr ⟨g,c,cur,by rw[h1],hg,hh,by omega,hcm,hcs,?_⟩
 have h5:cur.toList.take (n*size)=(cur.toList.take ((n+1)*size)).take (n*size):=by
  rw[List.take_take,Nat.min_eq_left (Nat.mul_le_mul_right _ (by omega))]
 rw[h5,ht,List.take_append_of_le_length (by omega),List.take_of_length_le (by omega)]
def CodeK (w:World) (base:Nat) (f:FunM):Prop:=Own w base 45 2 f.A (f.code.length+1) f.c ((f.code++[markI7]).flatMap insCells)
def CodeU (w:World) (base:Nat) (f:FunM):Prop:=Own w base 45 2 f.A f.code.length f.c (f.code.flatMap insCells)
theorem CodeK.bare {w:World} {base:Nat} {f:FunM} (h:CodeK w base f):CodeU w base f:=own_short (us:=insCells markI7) (by have h1:=h;unfold CodeK at h1;rw[List.flatMap_append] at h1;simpa using h1) rfl
structure RowK (w:World) (base k:Nat) (hs:List FunM):Prop where
 done:∀(i:Nat) (f:FunM),hs[i]?=some f→i<k→CodeK w base f
 rest:∀(i:Nat) (f:FunM),hs[i]?=some f→k≤i→CodeU w base f
 apart:∀(i j:Nat) (f g:FunM),hs[i]?=some f→hs[j]?=some g→i≠j→∀b,f.A.map (·.block)=some b→g.A.map (·.block)≠some b
theorem RowK.bare {w:World} {base k:Nat} {hs:List FunM} (h:RowK w base k hs) (i:Nat) (f:FunM) (hi:hs[i]?=some f):CodeU w base f:=by
 by_cases hik:i<k
 ·exact (h.done i f hi hik).bare
 exact h.rest i f hi (by omega)
theorem RowK.mine {w:World} {base k:Nat} {hs:List FunM} (h:RowK w base k hs):MineR w base hs:=by
 refine ⟨fun f hf=>?_,h.apart⟩;obtain ⟨i,hi⟩:=List.getElem?_of_mem hf;exact h.bare i f hi
theorem RowK.of_mine {w:World} {base:Nat} {hs:List FunM} (h:MineR w base hs):RowK w base 0 hs:=
 ⟨fun _ _ _ h0=>absurd h0 (Nat.not_lt_zero _),fun _ f hi _=>h.code f (List.mem_of_getElem? hi),h.apart⟩
theorem RowK.only {S:Nat→Prop} {w w':World} {base k:Nat} {hs:List FunM} (h:RowK w base k hs) (ho:Only S w w') (hS:∀f∈hs,∀b,f.A.map (·.block)=some b→¬ S b):RowK w' base k hs:=
 ⟨fun i f hi hk=>Own.only (h.done i f hi hk) ho fun b o e=>hS f (List.mem_of_getElem? hi) b (by rw[e];rfl),
  fun i f hi hk=>Own.only (h.rest i f hi hk) ho fun b o e=>hS f (List.mem_of_getElem? hi) b (by rw[e];rfl),h.apart⟩
theorem RowK.mono {w:World} {base base' k:Nat} {hs:List FunM} (h:RowK w base k hs) (hb:base'≤base):RowK w base' k hs:=⟨fun i f hi hk=>Own.mono (h.done i f hi hk) hb,fun i f hi hk=>Own.mono (h.rest i f hi hk) hb,h.apart⟩
theorem RowK.lt {w:World} {base k:Nat} {hs:List FunM} (h:RowK w base k hs):∀f∈hs,∀b,f.A.map (·.block)=some b→base≤b∧b<w.heap.size:=fun f hf b e=>Own.row (h.mine.code f hf) b e
theorem RowK.step {w w':World} {base k:Nat} {hs:List FunM} (h:RowK w base k hs) {x y:FunM} (hx:hs[k]?=some x) (hy:CodeK w' base y)
  (ho:w.grownBy w' (x.A.map (·.block))) (hA:y.A.map (·.block)=x.A.map (·.block)∨y.A.map (·.block)=some w.heap.size):RowK w' base (k+1) (hs.set k y):=by
 have hkl:k<hs.length:=by
  by_cases h1:k<hs.length
  ·exact h1
  rw[List.getElem?_eq_none (by omega)] at hx;cases hx
 have hget:∀(i:Nat) (f:FunM),(hs.set k y)[i]?=some f→(i=k∧f=y)∨(i≠k∧hs[i]?=some f):=by
  intro i f hi;by_cases hik:i=k
  ·subst hik;rw[List.getElem?_set_self hkl] at hi;injection hi with hi
   exact .inl ⟨rfl,hi.symm⟩
  rw[List.getElem?_set_ne (fun e=>hik e.symm)] at hi;exact .inr ⟨hik,hi⟩
 have hO:Only (fun b=>x.A.map (·.block)=some b) w w':=Only.of_grown ho fun _ e=>e
 have hne:∀(i:Nat) (f:FunM),i≠k→hs[i]?=some f→∀b,f.A.map (·.block)=some b→¬ x.A.map (·.block)=some b:=fun i f hik hi b e=>h.apart i k f x hi hx hik b e
 refine ⟨fun i f hi hik=>?_,fun i f hi hik=>?_,fun i j f g hi hj hij b e1 e2=>?_⟩
 ·rcases hget i f hi with ⟨-,rfl⟩|⟨hn,hi'⟩
  ·exact hy
  exact Own.only (h.done i f hi' (by omega)) hO fun b o e=>hne i f hn hi' b (by rw[e];rfl)
 ·rcases hget i f hi with ⟨e,-⟩|⟨hn,hi'⟩
  ·omega
  exact Own.only (h.rest i f hi' (by omega)) hO fun b o e=>hne i f hn hi' b (by rw[e];rfl)
 ·rcases hget i f hi with ⟨rfl,rfl⟩|⟨hn,hi'⟩
  ·rcases hget j g hj with ⟨e,-⟩|⟨hn2,hj'⟩
   ·exact hij e.symm
   rcases hA with hA|hA
   ·exact hne j g hn2 hj' b e2 (by rw[←hA];exact e1)
   have:=(h.lt g (List.mem_of_getElem? hj') b e2).2;rw[hA] at e1;injection e1 with e1
   omega
  rcases hget j g hj with ⟨e,rfl⟩|⟨hn2,hj'⟩
  ·rcases hA with hA|hA
   ·exact hne i f hn hi' b e1 (by rw[←hA];exact e2)
   have:=(h.lt f (List.mem_of_getElem? hi') b e1).2;rw[hA] at e2;injection e2 with e2
   omega
  exact h.apart i j f g hi' hj' hij b e1 e2
structure Lent13 (w:World) (base:Nat) (q:PrgM):Prop where
 data:OwnB w base q.AD (q.data.length+1) q.cD (q.data++[0xA9])
 funs:Own w base 43 4 q.AF (q.fs.length+1) q.cF ((q.fs++[markF7]).flatMap funCells)
 row:RowK w base q.fs.length q.fs
theorem Lent13.mine {w:World} {base:Nat} {q:PrgM} (h:Lent13 w base q):PrgMine w base q:=by
 refine ⟨?_,?_,h.row.mine⟩
 ·have h1:=h.data;unfold OwnB at h1 ⊢;rw[List.map_append] at h1;exact own_short h1 rfl
 have h1:=h.funs;rw[List.flatMap_append] at h1;exact own_short h1 (by simp[funCells])
theorem Lent13.only {S:Nat→Prop} {w w':World} {base:Nat} {q:PrgM} (h:Lent13 w base q) (ho:Only S w w') (hS:∀b,base≤b→b<w.heap.size→¬ S b):Lent13 w' base q:=
 ⟨Own.only h.data ho fun b o e=>hS b (Own.lt h.data b o e).1 (Own.lt h.data b o e).2.1,Own.only h.funs ho fun b o e=>hS b (Own.lt h.funs b o e).1 (Own.lt h.funs b o e).2.1,
  h.row.only ho fun f hf b e=>hS b (h.row.lt f hf b e).1 (h.row.lt f hf b e).2⟩
theorem Lent13.below {w w':World} {base:Nat} {q:PrgM} (h:Lent13 w base q) (hb:Below w.heap.size w w'):Lent13 w' base q:=h.only (S:=fun _=>False) (Only.of_fresh hb) fun _ _ _ h=>h
theorem Lent13.mono {w:World} {base base':Nat} {q:PrgM} (h:Lent13 w base q) (hb:base'≤base):Lent13 w base' q:=⟨Own.mono h.data hb,Own.mono h.funs hb,h.row.mono hb⟩
def Lend13Post (w:World) (p:PrgM) (e:Ending) (w':World):Prop:=∃q,e= .returned q.val∧q.plain=p.plain∧Lent13 w' w.heap.size q∧Below w.heap.size w w'
end
section
open Go.RowKit
theorem own_cap {w:World} {base size n c:Nat} {e:TypeId} {A:Option Addr} {vs:List Value} (h:Own w base e size A n c vs):n≤c:=by
 rcases h.2 with ⟨hv,h0⟩|⟨g,cap,cur,hv,hg,hh,hnc,hcm,hcs,ht⟩
 ·omega
 injection hv with h1 h3 h4;omega
theorem slice13B (g n c:Nat) (w':World) (h:n+1≤c) (hc:n≤140737488351232):(Instr.slice 23 (.slice (some ⟨g,0,none⟩) (n+1) c) none (some (.int .i64 (n:Int))) none).run Try.prog w'= .ok (.slice (some ⟨g,0,none⟩) n c) w':=by
 rw[run_slice_h w' _ _ _ _ (by kernel_rfl) _ _ (by omega) (by omega),show (sizeOf (Try.prog.elem 23)).run Try.prog w'= .ok 1 w' from by kernel_rfl,Result.andThen_ok]
 unfold sliced;rw[Int.toNat_natCast];simp[Addr.add]
theorem slice13F (g n c:Nat) (w':World) (h:n+1≤c) (hc:n≤140737488351232):(Instr.slice 24 (.slice (some ⟨g,0,none⟩) (n+1) c) none (some (.int .i64 (n:Int))) none).run Try.prog w'= .ok (.slice (some ⟨g,0,none⟩) n c) w':=by
 rw[run_slice_h w' _ _ _ _ (by kernel_rfl) _ _ (by omega) (by omega),show (sizeOf (Try.prog.elem 24)).run Try.prog w'= .ok 4 w' from by kernel_rfl,Result.andThen_ok]
 unfold sliced;rw[Int.toNat_natCast];simp[Addr.add]
theorem slice13I (g n c:Nat) (w':World) (h:n+1≤c) (hc:n≤140737488351232):(Instr.slice 41 (.slice (some ⟨g,0,none⟩) (n+1) c) none (some (.int .i64 (n:Int))) none).run Try.prog w'= .ok (.slice (some ⟨g,0,none⟩) n c) w':=by
 rw[run_slice_h w' _ _ _ _ (by kernel_rfl) _ _ (by omega) (by omega),show (sizeOf (Try.prog.elem 41)).run Try.prog w'= .ok 2 w' from by kernel_rfl,Result.andThen_ok]
 unfold sliced;rw[Int.toNat_natCast];simp[Addr.add]
theorem own_ne_blk {w:World} {base size n c g:Nat} {e t:TypeId} {A:Option Addr} {vs:List Value} {cs:Array Value} (h:Own w base e size A n c vs) (hg:Blk w g t cs) (hne:e≠t) (b:Nat) (hb:A.map (·.block)=some b):b≠g:=by
 rcases h.2 with ⟨hv,-⟩|⟨g',cap,cur,hv,-⟩
 ·injection hv with hv;subst hv;cases hb
 injection hv with hv
 subst hv;injection hb with hb
 dsimp only at hb;subst hb;exact Own.ne_blk h hg hne _ 0 rfl
theorem set_same {α:Type} (l:List α) (k:Nat) (v:α) (h:l[k]?=some v):l.set k v=l:=by
 apply List.ext_getElem?;intro i;by_cases e:k=i
 ·subst e
  have hk:k<l.length:=by
   by_cases h1:k<l.length
   ·exact h1
   rw[List.getElem?_eq_none (by omega)] at h;cases h
  rw[List.getElem?_set_self hk,h]
 rw[List.getElem?_set_ne e]
abbrev OwnD (w:World) (base n g c:Nat) (d:List UInt8):Prop:=Own w base 5 1 (some ⟨g,0,none⟩) (n+1) c (d.map bv++[.int .u8 169])
abbrev OwnF7 (w:World) (base m g c:Nat) (hs:List FunM):Prop:=Own w base 43 4 (some ⟨g,0,none⟩) (m+1) c ((hs++[markF7]).flatMap funCells)
set_option maxRecDepth 100000 in
set_option maxHeartbeats 20000000 in
theorem lend13_any (p:PrgM) (w:World) (hp:PrgAt w p) (hf7:p.fs.length≤2932031007317):Calls Try.prog 17 #[p.val] w (Lend13Post w p):=by
 obtain ⟨mem,AD0,cD0,data,AF0,cF0,fs⟩:=p;have Hp:=Lib.hid hp;have hdl:data.length≤140737488351232:=hp.dlen;have hfl:fs.length≤2932031007317:=hf7;clear hp hf7;obtain ⟨n,hn⟩:∃n,n=data.length:=⟨_,rfl⟩;obtain ⟨m,hm⟩:∃m,m=fs.length:=⟨_,rfl⟩;have hpv:(⟨mem,AD0,cD0,data,AF0,cF0,fs⟩:PrgM).val= .agg #[.int .i64 mem,.slice AD0 n cD0,.slice AF0 m cF0]:=by dsimp only[PrgM.val];rw[←hn, ←hm]
 have hdn:n≤140737488351232:=by omega
 have hfm:m≤2932031007317:=by omega
 have HN:=Lib.hid hn;have HM:=Lib.hid hm;obtain ⟨w1,hw1⟩:∃w1,w1=(w.alloc (.cells #[.int .i64 mem,.slice AD0 n cD0,.slice AF0 m cF0] 26)).alloc (.cells #[.int .i64 0,.slice none 0 0,.slice none 0 0] 26):=⟨_,rfl⟩;have hb1:Below w.heap.size w w1:=by rw[hw1];exact ((Below.refl _ _).alloc (Nat.le_refl _) _).alloc (by simp) _
 have hz1:w1.heap.size=w.heap.size+2:=by rw[hw1];simp
 have hX1:Blk w1 w.heap.size 26 #[.int .i64 mem,.slice AD0 n cD0,.slice AF0 m cF0]:=by rw[hw1];exact (Blk.new w _ _).alloc _
 have hR1:Blk w1 (w.heap.size+1) 26 #[.int .i64 0,.slice none 0 0,.slice none 0 0]:=by
  rw[hw1];have h:=Blk.new (w.alloc (.cells #[.int .i64 mem,.slice AD0 n cD0,.slice AF0 m cF0] 26)) 26 #[.int .i64 0,.slice none 0 0,.slice none 0 0];rw[World.size_alloc] at h;exact h
 have Htw:=Lib.hid (show Calls Try.prog 35 #[.agg #[.int .i64 mem,.slice AD0 n cD0,.slice AF0 m cF0]] w1 (TwinPost w1 ⟨mem,AD0,cD0,data,AF0,cF0,fs⟩) from by rw[←hpv];exact refTwin_any _ w1 (Hp.out.below hb1))
 rw[hpv];obtain ⟨gx,hgx⟩:∃g,g=w.heap.size:=⟨_,rfl⟩;obtain ⟨gr,hgr⟩:∃g,g=w.heap.size+1:=⟨_,rfl⟩;rw[←hgx] at hX1;rw[←hgr] at hR1;have HG:=Lib.hid (show gx=w.heap.size∧gr=w.heap.size+1∧w1.heap.size=w.heap.size+2 from ⟨hgx,hgr,hz1⟩)
 have hxr:gx<gr:=by omega
 have hr1:gr<w1.heap.size:=by omega
 have HX1:=Lib.hid hX1;have HR1:=Lib.hid hR1;have Hb1:=Lib.hid hb1;have Hw1:=Lib.hid hw1;have x0:w1.cell? ⟨gx,0,none⟩=some (.int .i64 mem):=hX1.cell 0;have x1:w1.cell? ⟨gx,1,none⟩=some (.slice AD0 n cD0):=hX1.cell 1;have x2:w1.cell? ⟨gx,2,none⟩=some (.slice AF0 m cF0):=hX1.cell 2;have hxl1:=hX1.lt;clear hw1 hb1 hX1 hR1 hgx hgr hz1 hn hm hpv hdl hfl;go_enter Try.func17,Try.ntmps17
 go_upto_region 1 with (fail)
 rw[←HG.out.2.1, ←Hw1.out, ←HG.out.1];go_wp2_with fail
 refine Htw.out.mono ?_;rintro e w2 ⟨⟨qm,AD,cD,qd,AF,cF,hs⟩,rfl,hpl,hM,hb2⟩;injection hpl with e1 e2 e3
 dsimp only at e1 e2 e3;subst e1;subst e2;have hhs:hs.length=m:=by have:=congrArg List.length e3;rw[List.length_map,List.length_map] at this;rw[this];exact HM.out.symm
 dsimp only[PrgM.val];rw[←HN.out,hhs];have HE:=Lib.hid (show hs.map FunM.plain=fs.map FunM.plain∧hs.length=m from ⟨e3,hhs⟩)
 have HX2:=Lib.hid (HX1.out.below hb2 hxl1);have HR2:=Lib.hid (HR1.out.below hb2 hr1);have HM2:=Lib.hid hM;have Hb2:=Lib.hid (show Below w.heap.size w w2∧w1.heap.size≤w2.heap.size from ⟨Hb1.out.trans (hb2.mono Hb1.out.size),hb2.size⟩)
 clear hb2 hM e3 hhs x0 x1 x2 Htw;go_wp2_with fail
 obtain ⟨gq,hgq⟩:∃g,g=w2.heap.size:=⟨_,rfl⟩;obtain ⟨B1,hB1⟩:∃g,g=w1.heap.size:=⟨_,rfl⟩;obtain ⟨w3,hw3⟩:∃w3,w3=w2.alloc (.cells #[.int .i64 qm,.slice AD n cD,.slice AF m cF] 26):=⟨_,rfl⟩;rw[←hw3, ←hgq];have hb23:Below w2.heap.size w2 w3:=by rw[hw3];exact (Below.refl _ w2).alloc (Nat.le_refl _) _
 have hQ3:Blk w3 gq 26 #[.int .i64 qm,.slice AD n cD,.slice AF m cF]:=by rw[hw3,hgq];exact Blk.new w2 _ _
 have hz3:w3.heap.size=gq+1:=by rw[hw3,hgq];simp
 have hX3:=HX2.out.below hb23 HX2.out.lt;have hR3:=HR2.out.below hb23 HR2.out.lt;have hM3:PrgMine w3 B1 ⟨qm,AD,cD,qd,AF,cF,hs⟩:=by rw[hB1];exact HM2.out.below hb23
 have HMl:=Lib.hid (show (∀b,AD.map (·.block)=some b→B1≤b∧b<gq) from by
  rw[hB1,hgq];exact Own.row HM2.out.data)
 have HMf:=Lib.hid (show (∀b,AF.map (·.block)=some b→B1≤b∧b<gq) from by
  rw[hB1,hgq];exact Own.row HM2.out.funs)
 have HMr:=Lib.hid (show (∀f∈hs,∀b,f.A.map (·.block)=some b→B1≤b∧b<gq) from by
  rw[hB1,hgq];exact HM2.out.row.lt)
 have HB:=Lib.hid (show gx<B1∧gr<B1∧B1≤gq∧w.heap.size≤gx∧w.heap.size≤B1 from by have:=HG.out;have:=Hb2.out.2;omega)
 have Hb3:=Lib.hid (show Below w.heap.size w w3 from Hb2.out.1.trans (hb23.mono Hb2.out.1.size))
 have HX3:=Lib.hid hX3;have HR3:=Lib.hid hR3;have HQ3:=Lib.hid hQ3;have HM3:=Lib.hid hM3;have y1:w3.cell? ⟨gq,1,none⟩=some (.slice AD n cD):=hQ3.cell 1;have x1:w3.cell? ⟨gx,1,none⟩=some (.slice AD0 n cD0):=hX3.cell 1;have hql3:=hQ3.lt;have hxl3:=hX3.lt;clear hz3 hw3 hb23 hX3 hR3 hQ3 hM3 hgq hB1 HX1 HR1 HX2 HR2 HM2 Hb2 Hb1 Hw1 hxl1 hr1;obtain ⟨SC,hSCd⟩:∃S:World→Prop,S=(fun w'=>w'.cell? ⟨gq,1,none⟩=some (.slice AD n cD)∧w'.cell? ⟨gx,1,none⟩=some (.slice AD0 n cD0)):=⟨_,rfl⟩;have hSC:SC w3.drew:=by rw[hSCd];exact ⟨y1,x1⟩
 have HSC:=Lib.hid (show SC w3.drew from hSC)
 have HSd:=Lib.hid hSCd;clear hSC hSCd;refine region_heldT 8 SC (by kernel_rfl) (by decide) ?_
 refine hwK 0 (.pointer (some ⟨gq,1,none⟩)) HSC.out ?_;simp only[Act.put,List.setIfInBounds_toArray];refine hwK 1 (.slice AD n cD) HSC.out ?_;simp only[Act.put];refine hwK 4 (.pointer (some ⟨gx,1,none⟩)) HSC.out ?_;simp only[Act.put];refine hwK 5 (.slice AD0 n cD0) HSC.out ?_;simp only[Act.put];refine hwK 6 (.int .i64 (n:Int)) HSC.out ?_;simp only[Act.put]
 have hSC4:SC (w3.drew.alloc (.cells #[.int .u8 169] 5)):=by
  rw[HSd.out];have hb:Below w3.heap.size w3 (w3.drew.alloc (.cells #[.int .u8 169] 5)):=(Below.refl _ w3).drew.alloc (Nat.le_refl _) _;obtain ⟨hc,-⟩:=bcell hb;exact ⟨(hc _ _ hql3).trans y1,(hc _ _ hxl3).trans x1⟩
 refine hwO 2 fun K hK=>?_;go_simp;refine hK.out _ _ hSC4 (fun hHeld=>?_);clear hK K hHeld;obtain ⟨w4,hw4⟩:∃w4,w4=(w3.alloc (.cells #[.int .u8 169] 5)).drew:=⟨_,rfl⟩;rw[←hw4];have hb34:Below w3.heap.size w3 w4:=by rw[hw4];exact ((Below.refl _ w3).alloc (Nat.le_refl _) _).drew
 have hU4:RV w4 (some ⟨w3.heap.size,0,none⟩) [.int .u8 169]:=by rw[hw4];exact RV.of_blk (Blk.new w3 5 #[.int .u8 169])
 have hown4:Own w4 B1 5 1 AD n cD (qd.map bv):=by
  have h:=Own.below HM3.out.data hb34 (Nat.le_refl _);dsimp only at h;rw[←HN.out] at h;exact h
 refine hwO 3 fun K hK=>?_;refine wp_app (.tmp 8) (.tmp 9) eByte rfl rfl hown4 (m:=1) (c':=1) (us:=[.int .u8 169]) rfl hU4 rfl (by intro v hv;simp only[List.mem_cons,List.not_mem_nil,or_false] at hv;subst hv;rfl) (by unfold maxLen;omega) (by omega) (by have:=hb34.size;have:=HB.out;omega) (by intro h;cases h) ?_
 intro A5 c5 w5 hown5 hg5 hA5;have hO5:Only (fun k=>AD.map (·.block)=some k) w3 w5:=(Only.of_fresh hb34).trans (Only.of_grown hg5 fun k e=>e)
 have hSC5:SC w5:=by
  rw[HSd.out];have hrow:=HMl.out;have hB:=HB.out;exact ⟨(hO5.cell (p:=⟨gq,1,none⟩) hql3 (fun e=>by have:=hrow gq e;omega)).trans y1,(hO5.cell (p:=⟨gx,1,none⟩) hxl3 (fun e=>by have:=hrow gx e;omega)).trans x1⟩
 refine hK.out _ _ hSC5 (fun hHeld=>?_);clear hK K hHeld;have HO5:=Lib.hid hO5;have HOwn5:=Lib.hid hown5;obtain ⟨g5,rfl,hg5a,hg5b⟩:=own_some hown5 (by omega)
 have hsl:=slice13B g5 n c5 w5 (own_cap hown5) hdn;clear hown5 hg5 hA5 hO5 hown4 hU4 hb34 hw4;refine hwO 7 fun K hK=>?_;go_simp;refine hK.out _ _ hSC5 (fun hHeld=>?_);clear hK K hHeld;refine fun hInv=>⟨by kernel_rfl,?_⟩
 clear hInv;simp only[List.drop_succ_cons,List.drop_zero];have hz5:=HO5.out.size;have q1:w5.cell? ⟨gq,1,none⟩=some (.slice AD n cD):=by rw[HSd.out] at hSC5;exact hSC5.1
 have hQ5:=HQ3.out.only HO5.out (fun e=>by have:=HMl.out gq e;omega)
 have qf:w5.frozen? ⟨gq,1,none⟩=false:=hQ5.frozen 1;have hql5:=hQ5.lt;have HQ5:=Lib.hid hQ5;clear hQ5 HSC HSd hSC4 hSC5 hsl x1 y1;clear SC;go_wp2_with fail
 obtain ⟨w6,hw6⟩:∃w6,w6=w5.setCell ⟨gq,1,none⟩ (.slice (some ⟨g5,0,none⟩) n c5):=⟨_,rfl⟩;rw[←hw6];have hO56:Only (fun k=>k=gq) w5 w6:=by rw[hw6];exact Only.setCell (S:=fun k=>k=gq) (Only.refl _ _) (p:=⟨gq,1,none⟩) (.inl rfl) _
 have hB:=HB.out;have hX6:Blk w6 gx 26 #[.int .i64 qm,.slice AD0 n cD0,.slice AF0 m cF0]:=(HX3.out.only HO5.out (fun e=>by have:=HMl.out gx e;omega)).only hO56 (by omega)
 have hR6:Blk w6 gr 26 #[.int .i64 0,.slice none 0 0,.slice none 0 0]:=(HR3.out.only HO5.out (fun e=>by have:=HMl.out gr e;omega)).only hO56 (by omega)
 have hQ6:Blk w6 gq 26 #[.int .i64 qm,.slice (some ⟨g5,0,none⟩) n c5,.slice AF m cF]:=by rw[hw6];exact HQ5.out.set_ 1 _
 have hD6:Own w6 B1 5 1 (some ⟨g5,0,none⟩) (n+1) c5 (qd.map bv++[.int .u8 169]):=Own.only HOwn5.out hO56 (Own.ne_blk HOwn5.out HQ5.out (by decide))
 have hm6:hs.length=m:=HE.out.2
 have hF6:Own w6 B1 43 4 AF m cF (hs.flatMap funCells):=by
  have h:=Own.only (Own.only HM3.out.funs HO5.out (fun b o e e2=>own_ne HM3.out.data HM3.out.funs (by decide) b e2 (by have e':AF=some ⟨b,o,none⟩:=e;rw[e'];rfl))) hO56 (fun b o e=>by have e':AF=some ⟨b,o,none⟩:=e;have:=HMf.out b (by rw[e'];rfl);omega)
  dsimp only at h;rw[hm6] at h;exact h
 have hC6:RowK w6 B1 0 hs:=by
  refine RowK.only (RowK.only (RowK.of_mine HM3.out.row) HO5.out (fun f hf b e e2=>own_ne HM3.out.data (HM3.out.row.code f hf) (by decide) b e2 e)) hO56 (fun f hf b e=>by have:=HMr.out f hf b e;omega)
 have hb6:Below w.heap.size w w6:=Hb3.out.trans (((HO5.out.below (B:=B1) (by omega) (fun k hk e=>by have:=HMl.out k e;omega)).trans (hO56.below (by omega) (fun k hk=>by omega))).mono (by omega))
 have HX6:=Lib.hid hX6;have HR6:=Lib.hid hR6;have HQ6:=Lib.hid hQ6;have HD6:=Lib.hid hD6;have HF6:=Lib.hid hF6;have HC6:=Lib.hid hC6;have Hb6:=Lib.hid hb6;have y2:w6.cell? ⟨gq,2,none⟩=some (.slice AF m cF):=hQ6.cell 2;have x2:w6.cell? ⟨gx,2,none⟩=some (.slice AF0 m cF0):=hX6.cell 2;have hql6:=hQ6.lt;have hxl6:=hX6.lt;have HF6r:=Lib.hid (Own.row hF6);have HFq:=Lib.hid (show ∀k,k=gq→¬ AF.map (·.block)=some k from fun k hk e=>by have:=HMf.out k e;omega)
 clear hX6 hR6 hQ6 hD6 hF6 hC6 hb6 hO56 hw6 hB q1 qf hz5 hql5 hm6 hg5a hg5b HO5 HOwn5 HQ5 HX3 HR3 HQ3 HM3 HMl HMf HMr Hb3 hql3 hxl3;obtain ⟨SC,hSCd⟩:∃S:World→Prop,S=(fun w'=>w'.cell? ⟨gq,2,none⟩=some (.slice AF m cF)∧w'.cell? ⟨gx,2,none⟩=some (.slice AF0 m cF0)):=⟨_,rfl⟩;have hSC:SC w6.drew:=by rw[hSCd];exact ⟨y2,x2⟩
 have HSC:=Lib.hid (show SC w6.drew from hSC)
 have HSd:=Lib.hid hSCd;clear hSC hSCd;refine region_heldT 9 SC (by kernel_rfl) (by decide) ?_
 refine hwK 0 (.pointer (some ⟨gq,2,none⟩)) HSC.out ?_;simp only[Act.put,List.setIfInBounds_toArray];refine hwK 1 (.slice AF m cF) HSC.out ?_;simp only[Act.put];refine hwK 2 (.agg #[.int .i64 (-7),.int .i64 0,.int .i64 0,.slice none 0 0]) HSC.out ?_;simp only[Act.put];refine hwK 5 (.pointer (some ⟨gx,2,none⟩)) HSC.out ?_;simp only[Act.put];refine hwK 6 (.slice AF0 m cF0) HSC.out ?_;simp only[Act.put];refine hwK 7 (.int .i64 (m:Int)) HSC.out ?_;simp only[Act.put]
 have hSC7:SC (w6.drew.alloc (.cells #[.int .i64 (-7),.int .i64 0,.int .i64 0,.slice none 0 0] 43)):=by
  rw[HSd.out];have hb:Below w6.heap.size w6 (w6.drew.alloc (.cells #[.int .i64 (-7),.int .i64 0,.int .i64 0,.slice none 0 0] 43)):=(Below.refl _ w6).drew.alloc (Nat.le_refl _) _;obtain ⟨hc,-⟩:=bcell hb;exact ⟨(hc _ _ hql6).trans y2,(hc _ _ hxl6).trans x2⟩
 refine hwO 3 fun K hK=>?_;go_simp;refine hK.out _ _ hSC7 (fun hHeld=>?_);clear hK K hHeld;obtain ⟨w7,hw7⟩:∃w7,w7=(w6.alloc (.cells #[.int .i64 (-7),.int .i64 0,.int .i64 0,.slice none 0 0] 43)).drew:=⟨_,rfl⟩;rw[←hw7];have hb67:Below w6.heap.size w6 w7:=by rw[hw7];exact ((Below.refl _ w6).alloc (Nat.le_refl _) _).drew
 have hU7:RV w7 (some ⟨w6.heap.size,0,none⟩) [.int .i64 (-7),.int .i64 0,.int .i64 0,.slice none 0 0]:=by rw[hw7];exact RV.of_blk (Blk.new w6 43 #[.int .i64 (-7),.int .i64 0,.int .i64 0,.slice none 0 0])
 have hown7:Own w7 B1 43 4 AF m cF (hs.flatMap funCells):=Own.below HF6.out hb67 (Nat.le_refl _);refine hwO 4 fun K hK=>?_;refine wp_app (.tmp 17) (.tmp 19) eFun rfl rfl hown7 (m:=1) (c':=1) (us:=[.int .i64 (-7),.int .i64 0,.int .i64 0,.slice none 0 0]) rfl hU7 rfl (by intro v hv;simp only[List.mem_cons,List.not_mem_nil,or_false] at hv;rcases hv with rfl|rfl|rfl|rfl<;>rfl) (by unfold maxLen;omega) (by omega) (by have:=hb67.size;have:=HB.out;omega) (by intro h;cases h) ?_
 intro A8 c8 w8 hown8 hg8 hA8;have hO8:Only (fun k=>AF.map (·.block)=some k) w6 w8:=(Only.of_fresh hb67).trans (Only.of_grown hg8 fun k e=>e)
 have hSC8:SC w8:=by
  rw[HSd.out];exact ⟨(hO8.cell (p:=⟨gq,2,none⟩) hql6 (HFq.out gq rfl)).trans y2,(hO8.cell (p:=⟨gx,2,none⟩) hxl6 (fun e=>by have:=HF6r.out gx e;have:=HB.out;omega)).trans x2⟩
 refine hK.out _ _ hSC8 (fun hHeld=>?_);clear hK K hHeld;have HO8:=Lib.hid hO8;have HOwn8:=Lib.hid hown8;obtain ⟨g8,rfl,hg8a,hg8b⟩:=own_some hown8 (by omega)
 have hsl:=slice13F g8 m c8 w8 (own_cap hown8) (by omega)
 clear hown8 hg8 hA8 hO8 hown7 hU7 hb67 hw7;refine hwO 8 fun K hK=>?_;go_simp;refine hK.out _ _ hSC8 (fun hHeld=>?_);clear hK K hHeld;refine fun hInv=>⟨by kernel_rfl,?_⟩
 clear hInv;simp only[List.drop_succ_cons,List.drop_zero];have hz8:=HO8.out.size;have q1:w8.cell? ⟨gq,2,none⟩=some (.slice AF m cF):=by rw[HSd.out] at hSC8;exact hSC8.1
 have hQ8:=HQ6.out.only HO8.out (HFq.out gq rfl);have qf:w8.frozen? ⟨gq,2,none⟩=false:=hQ8.frozen 2;have hql8:=hQ8.lt;have HQ8:=Lib.hid hQ8;clear hQ8 HSC HSd hSC7 hSC8 hsl x2 y2;clear SC;go_wp2_with fail
 obtain ⟨w9,hw9⟩:∃w9,w9=w8.setCell ⟨gq,2,none⟩ (.slice (some ⟨g8,0,none⟩) m c8):=⟨_,rfl⟩;rw[←hw9];have hO9:Only (fun k=>k=gq) w8 w9:=by rw[hw9];exact Only.setCell (S:=fun k=>k=gq) (Only.refl _ _) (p:=⟨gq,2,none⟩) (.inl rfl) _
 have hB:=HB.out;have hX9:Blk w9 gx 26 #[.int .i64 qm,.slice AD0 n cD0,.slice AF0 m cF0]:=(HX6.out.only HO8.out (fun e=>by have:=HF6r.out gx e;omega)).only hO9 (by omega)
 have hR9:Blk w9 gr 26 #[.int .i64 0,.slice none 0 0,.slice none 0 0]:=(HR6.out.only HO8.out (fun e=>by have:=HF6r.out gr e;omega)).only hO9 (by omega)
 have hQ9:Blk w9 gq 26 #[.int .i64 qm,.slice (some ⟨g5,0,none⟩) n c5,.slice (some ⟨g8,0,none⟩) m c8]:=by rw[hw9];exact HQ8.out.set_ 2 _
 have hF9:Own w9 B1 43 4 (some ⟨g8,0,none⟩) (m+1) c8 ((hs++[markF7]).flatMap funCells):=by
  rw[List.flatMap_append];exact Own.only HOwn8.out hO9 (Own.ne_blk HOwn8.out HQ8.out (by decide))
 have hD9:Own w9 B1 5 1 (some ⟨g5,0,none⟩) (n+1) c5 (qd.map bv++[.int .u8 169]):=
  Own.only (Own.only HD6.out HO8.out (fun b o e e2=>own_ne HF6.out HD6.out (by decide) b e2 (by rw[e];rfl))) hO9 (Own.ne_blk (Own.only HD6.out HO8.out (fun b o e e2=>own_ne HF6.out HD6.out (by decide) b e2 (by rw[e];rfl))) HQ8.out (by decide))
 have hC9:RowK w9 B1 0 hs:=by
  have h8:=RowK.only HC6.out HO8.out (fun f hf b e e2=>own_ne HF6.out (HC6.out.mine.code f hf) (by decide) b e2 e)
  exact RowK.only h8 hO9 (fun f hf b e hk=>own_ne_blk (h8.mine.code f hf) HQ8.out (by decide) b e hk)
 have hb9:Below w.heap.size w w9:=Hb6.out.trans (((HO8.out.below (B:=B1) (by omega) (fun k hk e=>by have:=HF6r.out k e;omega)).trans (hO9.below (by omega) (fun k hk=>by omega))).mono (by omega))
 have HX9:=Lib.hid hX9;have HR9:=Lib.hid hR9;have HQ9:=Lib.hid hQ9;have HD9:=Lib.hid hD9;have HF9:=Lib.hid hF9;have HC9:=Lib.hid hC9;have Hb9:=Lib.hid hb9;have hgl9:gx<w9.heap.size∧gr<w9.heap.size∧gq<w9.heap.size:=⟨hX9.lt,hR9.lt,hQ9.lt⟩;have Hgl9:=Lib.hid hgl9;clear hX9 hR9 hQ9 hD9 hF9 hC9 hb9 hO9 hw9 hB q1 qf hz8 hql8 hg8a hg8b HO8 HOwn8 HQ8 HX6 HR6 HQ6 HD6 HF6 HC6 HF6r HFq Hb6 hql6 hxl6 hgl9;go_loopw [4] (fun v wr=>∃(k:Nat) (hs:List FunM),k≤m∧v= .int .i64 k∧Hid (hs.map FunM.plain=fs.map FunM.plain∧hs.length=m)∧OwnD wr B1 n g5 c5 qd∧OwnF7 wr B1 m g8 c8 hs∧RowK wr B1 k hs∧Only (fun b=>B1≤b∧b≠gq) w9 wr) (fun v _=>m-(intOf v).toNat)
 case atStart=>exact ⟨0,hs,Nat.zero_le _,rfl,HE,HD9.out,HF9.out,HC9.out,Only.refl _ _⟩
 rename World=>w7;rename List FunM=>hs0;obtain ⟨k,hs,hk,rfl,hE,hD,hF,hC,hO⟩:=hrel;have hX7:=HX9.out.only hO (by have:=HB.out;omega)
 have hR7:=HR9.out.only hO (by have:=HB.out;omega)
 have hQ7:=HQ9.out.only hO (fun h=>h.2 rfl);have hb7:Below w.heap.size w w7:=Hb9.out.trans ((hO.below (B:=B1) (by have:=HB.out;have:=Hgl9.out;omega) (fun k hk h=>by omega)).mono HB.out.2.2.2.2)
 have y2:w7.cell? ⟨gq,2,none⟩=some (.slice (some ⟨g8,0,none⟩) m c8):=hQ7.cell 2;have x2:w7.cell? ⟨gx,2,none⟩=some (.slice AF0 m cF0):=hX7.cell 2;have hql7:=hQ7.lt;have hxl7:=hX7.lt;have HX7:=Lib.hid hX7;have HR7:=Lib.hid hR7;have HQ7:=Lib.hid hQ7;have Hb7:=Lib.hid hb7;have HD7:=Lib.hid hD;have HF7:=Lib.hid hF;have HC7:=Lib.hid hC;have HO7:=Lib.hid hO;clear hX7 hR7 hQ7 hb7 hD hF hC hO;by_cases hlt:k<m
 ·have g1:(k:Int)<(m:Int):=by omega
  obtain ⟨b,off,hA,hb,hc⟩:=(Hp.out.below Hb7.out).rv.at_ (by rw[funCells_len];have:=HM.out;dsimp only;omega)
  dsimp only at hA;subst hA;have hkl:k<fs.length:=by have:=HM.out;omega
  have hkh:k<hs.length:=by have:=hE.out.2;omega
  obtain ⟨-,-,-,p3⟩:=fun_cells hc k hkl;have hxk:hs[k]?=some hs[k]:=List.getElem?_eq_getElem hkh
  have hcode:fs[k].code=hs[k].code:=by
   have h1:(hs.map FunM.plain)[k]?=(fs.map FunM.plain)[k]?:=by rw[hE.out.1]
   rw[List.getElem?_map,List.getElem?_map,hxk,List.getElem?_eq_getElem hkl] at h1;injection h1 with h1
   injection h1 with _ _ _ h1
   exact h1.symm
  have hFa:=Hp.out.funs _ (List.getElem_mem hkl);have hcl:hs[k].code.length≤8796093021952:=by rw[←hcode];exact hFa.len
  have hbx:b<w7.heap.size:=hb
  have hbw:b<w.heap.size:=by
   obtain ⟨b',off',e,hb',-⟩:=Hp.out.rv.at_ (by rw[funCells_len];have:=HM.out;dsimp only;omega)
   injection e with e
   injection e with e1 e2
   rw[e1];exact hb'
  have hfo:=own_at HF7.out (k*4+3) (by rw[funCells_len,List.length_append,List.length_singleton];omega)
  have hfv:((hs++[markF7]).flatMap funCells)[k*4+3]?=some (.slice hs[k].A hs[k].code.length hs[k].c):=by
   rw[funCells_get _ k 3 (by rw[List.length_append];omega) (by omega),List.getElem_append_left hkh]
   rfl
  have z3:w7.cell? ⟨g8,k*4+3,none⟩=some (.slice hs[k].A hs[k].code.length hs[k].c):=by rw[hfo.1, ←hfv,List.getElem?_eq_getElem]
  have hfl:=hfo.2.2;have hUk:=HC7.out.rest k _ hxk (Nat.le_refl _);rw[hcode] at p3;obtain ⟨x,hxx⟩:∃x,x=hs[k]:=⟨_,rfl⟩;rw[←hxx] at hUk z3 hcl hxk p3;obtain ⟨xa,xl,xr,xA,xc,xcode⟩:=x;obtain ⟨L,hL⟩:∃L,L=xcode.length:=⟨_,rfl⟩;dsimp only at z3 hcl p3 hUk;rw[←hL] at z3 hcl p3;have HxK:=Lib.hid hxk;have HUk:=Lib.hid hUk;have HL:=Lib.hid hL;obtain ⟨yA,yc,hyy⟩:∃A c,A=fs[k].A∧c=fs[k].c:=⟨_,_,rfl,rfl⟩;rw[←hyy.1, ←hyy.2] at p3;have P3:=Lib.hid p3;clear hyy hUk hL hxk hxx hfv hfo hFa hcode hc hb p3;go_wp2_with fail
  obtain ⟨SC,hSCd⟩:∃S:World→Prop,S=(fun w'=>w'.cell? ⟨gq,2,none⟩=some (.slice (some ⟨g8,0,none⟩) m c8)∧w'.cell? ⟨gx,2,none⟩=some (.slice (some ⟨b,off,none⟩) m cF0)∧w'.cell? ⟨g8,k*4+3,none⟩=some (.slice xA L xc)∧w'.cell? ⟨b,off+k*4+3,none⟩=some (.slice yA L yc)):=⟨_,rfl⟩;have hSC:SC w7.drew:=by rw[hSCd];exact ⟨y2,x2,z3,P3.out⟩
  have HSC:=Lib.hid (show SC w7.drew from hSC)
  have HSd:=Lib.hid hSCd;clear hSC hSCd;refine region_heldT 20 SC (by kernel_rfl) (by decide) ?_
  refine hwK 0 (.pointer (some ⟨gq,2,none⟩)) HSC.out ?_;simp only[Act.put,List.setIfInBounds_toArray];refine hwK 1 (.slice (some ⟨g8,0,none⟩) m c8) HSC.out ?_;simp only[Act.put];refine hwK 2 (.int .i64 (k:Int)) HSC.out ?_;simp only[Act.put];refine hwK 3 (.pointer (some ⟨gq,2,none⟩)) HSC.out ?_;simp only[Act.put];refine hwK 4 (.slice (some ⟨g8,0,none⟩) m c8) HSC.out ?_;simp only[Act.put];refine hwK 5 (.int .i64 (k:Int)) HSC.out ?_;simp only[Act.put];refine hwK 6 (.pointer (some ⟨g8,k*4,none⟩)) HSC.out ?_;simp only[Act.put];refine hwK 7 (.pointer (some ⟨g8,k*4+3,none⟩)) HSC.out ?_;simp only[Act.put];refine hwK 8 (.slice xA L xc) HSC.out ?_;simp only[Act.put];refine hwK 9 (.agg #[.int .i64 (-7),.int .i64 0]) HSC.out ?_;simp only[Act.put];refine hwK 12 (.pointer (some ⟨gx,2,none⟩)) HSC.out ?_;simp only[Act.put];refine hwK 13 (.slice (some ⟨b,off,none⟩) m cF0) HSC.out ?_;simp only[Act.put];refine hwK 14 (.int .i64 (k:Int)) HSC.out ?_;simp only[Act.put];refine hwK 15 (.pointer (some ⟨b,off+k*4,none⟩)) HSC.out ?_;simp only[Act.put];refine hwK 16 (.pointer (some ⟨b,off+k*4+3,none⟩)) HSC.out ?_;simp only[Act.put];refine hwK 17 (.slice yA L yc) HSC.out ?_;simp only[Act.put];refine hwK 18 (.int .i64 (L:Int)) HSC.out ?_;simp only[Act.put]
  have hSC8:SC (w7.drew.alloc (.cells #[.int .i64 (-7),.int .i64 0] 45)):=by
   rw[HSd.out];have hb:Below w7.heap.size w7 (w7.drew.alloc (.cells #[.int .i64 (-7),.int .i64 0] 45)):=(Below.refl _ w7).drew.alloc (Nat.le_refl _) _;obtain ⟨hc,-⟩:=bcell hb;exact ⟨(hc _ _ hql7).trans y2,(hc _ _ hxl7).trans x2,(hc _ _ hfl).trans z3,(hc _ _ hbx).trans P3.out⟩
  refine hwO 10 fun K hK=>?_;go_simp;refine hK.out _ _ hSC8 (fun hHeld=>?_);clear hK K hHeld;obtain ⟨w8,hw8⟩:∃w8,w8=(w7.alloc (.cells #[.int .i64 (-7),.int .i64 0] 45)).drew:=⟨_,rfl⟩;rw[←hw8];have hb78:Below w7.heap.size w7 w8:=by rw[hw8];exact ((Below.refl _ w7).alloc (Nat.le_refl _) _).drew
  have hU8:RV w8 (some ⟨w7.heap.size,0,none⟩) [.int .i64 (-7),.int .i64 0]:=by rw[hw8];exact RV.of_blk (Blk.new w7 45 #[.int .i64 (-7),.int .i64 0])
  have hown8:Own w8 B1 45 2 xA L xc (xcode.flatMap insCells):=by
   have h:=Own.below HUk.out hb78 (Nat.le_refl _);dsimp only at h;rw[←HL.out] at h;exact h
  have hB:=HB.out;refine hwO 11 fun K hK=>?_;refine wp_app (.tmp 41) (.tmp 43) eIns rfl rfl hown8 (m:=1) (c':=1) (us:=[.int .i64 (-7),.int .i64 0]) rfl hU8 rfl (by intro v hv;simp only[List.mem_cons,List.not_mem_nil,or_false] at hv;rcases hv with rfl|rfl<;>rfl) (by unfold maxLen;omega) (by omega) (by have:=hb78.size;omega) (by intro h;cases h) ?_
  intro A9 c9 wa hown9 hg9 hA9;have hO9:Only (fun k=>xA.map (·.block)=some k) w7 wa:=(Only.of_fresh hb78).trans (Only.of_grown hg9 fun k e=>e)
  have hSC9:SC wa:=by
   rw[HSd.out];have hrow:=Own.row HUk.out;dsimp only at hrow
   exact ⟨(hO9.cell (p:=⟨gq,2,none⟩) hql7 (fun e=>own_ne_blk HUk.out HQ7.out (by decide) gq e rfl)).trans y2,(hO9.cell (p:=⟨gx,2,none⟩) hxl7 (fun e=>by have:=hrow gx e;omega)).trans x2,
    (hO9.cell (p:=⟨g8,k*4+3,none⟩) hfl (fun e=>own_ne HUk.out HF7.out (by decide) g8 e rfl)).trans z3,(hO9.cell (p:=⟨b,off+k*4+3,none⟩) hbx (fun e=>by have:=hrow b e;omega)).trans P3.out⟩
  refine hK.out _ _ hSC9 (fun hHeld=>?_);clear hK K hHeld;obtain ⟨g9,rfl,hg9a,hg9b⟩:=own_some hown9 (by omega)
  have hsl:=slice13I g9 L c9 wa (own_cap hown9) (by omega)
  have hRow8:RowK w8 B1 k hs:=HC7.out.only (S:=fun _=>False) (Only.of_fresh hb78) (fun _ _ _ _ h=>h)
  have hRow9:RowK wa B1 (k+1) (hs.set k ⟨xa,xl,xr,some ⟨g9,0,none⟩,c9,xcode⟩):=by
   refine RowK.step hRow8 HxK.out ?_ hg9 hA9;unfold CodeK;dsimp only;rw[List.flatMap_append, ←HL.out];exact hown9
  have hFa:OwnF7 wa B1 m g8 c8 hs:=Own.only HF7.out hO9 (fun b o e e2=>own_ne HUk.out HF7.out (by decide) b e2 (by rw[e];rfl))
  have hDa:OwnD wa B1 n g5 c5 qd:=Own.only HD7.out hO9 (fun b o e e2=>own_ne HUk.out HD7.out (by decide) b e2 (by rw[e];rfl))
  have hOa:Only (fun b=>B1≤b∧b≠gq) w9 wa:=HO7.out.more hO9 (fun k hk e=>⟨(Own.row HUk.out k e).1,own_ne_blk HUk.out HQ7.out (by decide) k e⟩)
  have HRow9:=Lib.hid hRow9;have HFa:=Lib.hid hFa;have HDa:=Lib.hid hDa;have HOa:=Lib.hid hOa;have hfz:=(own_at hFa (k*4+3) (by rw[funCells_len,List.length_append,List.length_singleton];omega)).2.1
  clear hown9 hg9 hA9 hO9 hown8 hU8 hb78 hw8 hRow8 hRow9 hFa hDa hOa hB;refine hwO 19 fun K hK=>?_;go_simp;refine hK.out _ _ hSC9 (fun hHeld=>?_);clear hK K hHeld;refine fun hInv=>⟨by kernel_rfl,?_⟩
  clear hInv;simp only[List.drop_succ_cons,List.drop_zero];have z3a:wa.cell? ⟨g8,k*4+3,none⟩=some (.slice xA L xc):=by rw[HSd.out] at hSC9;exact hSC9.2.2.1
  have q2a:wa.cell? ⟨gq,2,none⟩=some (.slice (some ⟨g8,0,none⟩) m c8):=by rw[HSd.out] at hSC9;exact hSC9.1
  have hg8l:g8<wa.heap.size:=(Own.row HFa.out g8 rfl).2;clear HSC HSd hSC8 hSC9 hsl y2 x2 z3 P3;clear SC;go_wp2_with fail
  have hset:=funCells_set3 (hs++[markF7]) k ⟨xa,xl,xr,xA,xc,xcode⟩ (some ⟨g9,0,none⟩) c9 xcode (by rw[List.getElem?_append_left hkh];exact HxK.out)
  rw[List.set_append_left _ _ hkh, ←HL.out] at hset;have hOs:Only (fun b=>b=g8) wa (wa.setCell ⟨g8,k*4+3,none⟩ (.slice (some ⟨g9,0,none⟩) L c9)):=Only.setCell (S:=fun b=>b=g8) (Only.refl _ _) (p:=⟨g8,k*4+3,none⟩) (.inl rfl) _;refine ⟨⟨k+1,hs.set k ⟨xa,xl,xr,some ⟨g9,0,none⟩,c9,xcode⟩,by omega,by first|rfl|go_num,Lib.hid ⟨?_,by rw[List.length_set];exact hE.out.2⟩,?_,?_,?_,?_⟩,by simp[intOf];omega⟩
  ·rw[List.map_set,set_same _ _ _ (by rw[List.getElem?_map,HxK.out];rfl)]
   exact hE.out.1
  ·exact Own.only HDa.out hOs (fun b o e e2=>own_ne HDa.out HFa.out (by decide) b (by rw[e];rfl) (by rw[e2];rfl))
  ·have h:=own_set HFa.out (k*4+3) (.slice (some ⟨g9,0,none⟩) L c9);rw[hset] at h;exact h
  ·exact RowK.only HRow9.out hOs (fun f hf b e e2=>own_ne (HRow9.out.mine.code f hf) HFa.out (by decide) b e (by rw[e2];rfl))
  exact HOa.out.setCell (p:=⟨g8,k*4+3,none⟩) (.inl ⟨(Own.row HF7.out g8 rfl).1,Own.ne_blk HF7.out HQ7.out (by decide) g8 0 rfl⟩) _
 obtain rfl:k=m:=by omega
 have q0:w7.cell? ⟨gq,0,none⟩=some (.int .i64 qm):=HQ7.out.cell 0;have q1:w7.cell? ⟨gq,1,none⟩=some (.slice (some ⟨g5,0,none⟩) n c5):=HQ7.out.cell 1;have r0:w7.cell? ⟨gr,0,none⟩=some (.int .i64 0):=HR7.out.cell 0;have r1:w7.cell? ⟨gr,1,none⟩=some (.slice none 0 0):=HR7.out.cell 1;have r2:w7.cell? ⟨gr,2,none⟩=some (.slice none 0 0):=HR7.out.cell 2;have rf0:=HR7.out.frozen 0;have rf1:=HR7.out.frozen 1;have rf2:=HR7.out.frozen 2;have hrl:=HR7.out.lt;go_wp2_with fail
 obtain ⟨wF,hwF⟩:∃wF,wF=(((w7.setCell ⟨gr,0,none⟩ (.int .i64 qm)).setCell ⟨gr,1,none⟩ (.slice (some ⟨g5,0,none⟩) n c5)).setCell ⟨gr,2,none⟩ (.slice (some ⟨g8,0,none⟩) k c8)):=⟨_,rfl⟩;rw[←hwF]
 have hOF:Only (fun b=>b=gr) w7 wF:=by
  rw[hwF];exact (((Only.refl (fun b=>b=gr) w7).setCell (p:=⟨gr,0,none⟩) (.inl rfl) _).setCell (p:=⟨gr,1,none⟩) (.inl rfl) _).setCell (p:=⟨gr,2,none⟩) (.inl rfl) _
 have hRF:Blk wF gr 26 #[.int .i64 qm,.slice (some ⟨g5,0,none⟩) n c5,.slice (some ⟨g8,0,none⟩) k c8]:=by
  rw[hwF];exact ((HR7.out.set_ 0 _).set_ 1 _).set_ 2 _
 have hrl:=hRF.lt;have c0:wF.cell? ⟨gr,0,none⟩=some (.int .i64 qm):=hRF.cell 0;have c1:wF.cell? ⟨gr,1,none⟩=some (.slice (some ⟨g5,0,none⟩) n c5):=hRF.cell 1;have c2:wF.cell? ⟨gr,2,none⟩=some (.slice (some ⟨g8,0,none⟩) k c8):=hRF.cell 2;have hB:=HB.out;refine bodyPost_ret (v:=.agg #[.int .i64 qm,.slice (some ⟨g5,0,none⟩) n c5,.slice (some ⟨g8,0,none⟩) k c8]) ?_ rfl ⟨⟨qm,some ⟨g5,0,none⟩,c5,qd,some ⟨g8,0,none⟩,c8,hs⟩,?_,?_,?_,?_⟩
 ·simp[results,Try.results17,go_sem,c0,c1,c2]
 ·dsimp only[PrgM.val];rw[hE.out.2, ←HN.out]
 ·unfold PrgM.plain;dsimp only;rw[hE.out.1]
 ·have hL:Lent13 w7 B1 ⟨qm,some ⟨g5,0,none⟩,c5,qd,some ⟨g8,0,none⟩,c8,hs⟩:=by
   refine ⟨?_,?_,?_⟩
   ·dsimp only;rw[←HN.out];unfold OwnB;rw[List.map_append];exact HD7.out
   ·dsimp only;rw[hE.out.2];exact HF7.out
   dsimp only;rw[hE.out.2];exact HC7.out
  exact (hL.only hOF (fun b h1 h2 h3=>by omega)).mono (by omega)
 exact Hb7.out.trans ((hOF.below (B:=w.heap.size) Hb7.out.size (by have:=HG.out;intro k hk;omega)).mono (Nat.le_refl _))
end
section
open Go.RowKit
theorem slice13uB (g n c:Nat) (w':World) (h:n+1≤c) (hc:n≤140737488351232):(Instr.slice 23 (.slice (some ⟨g,0,none⟩) n c) none (some (.int .i64 ((n:Int)+1))) none).run Try.prog w'= .ok (.slice (some ⟨g,0,none⟩) (n+1) c) w':=by
 rw[show ((n:Int)+1)=((n+1:Nat):Int) from by omega,run_slice_h w' _ _ _ _ (by kernel_rfl) _ _ (by omega) (by omega),show (sizeOf (Try.prog.elem 23)).run Try.prog w'= .ok 1 w' from by kernel_rfl,Result.andThen_ok]
 unfold sliced;rw[Int.toNat_natCast];simp[Addr.add]
theorem slice13uF (g n c:Nat) (w':World) (h:n+1≤c) (hc:n≤140737488351232):(Instr.slice 24 (.slice (some ⟨g,0,none⟩) n c) none (some (.int .i64 ((n:Int)+1))) none).run Try.prog w'= .ok (.slice (some ⟨g,0,none⟩) (n+1) c) w':=by
 rw[show ((n:Int)+1)=((n+1:Nat):Int) from by omega,run_slice_h w' _ _ _ _ (by kernel_rfl) _ _ (by omega) (by omega),show (sizeOf (Try.prog.elem 24)).run Try.prog w'= .ok 4 w' from by kernel_rfl,Result.andThen_ok]
 unfold sliced;rw[Int.toNat_natCast];simp[Addr.add]
theorem slice13uI (g n c:Nat) (w':World) (h:n+1≤c) (hc:n≤140737488351232):(Instr.slice 41 (.slice (some ⟨g,0,none⟩) n c) none (some (.int .i64 ((n:Int)+1))) none).run Try.prog w'= .ok (.slice (some ⟨g,0,none⟩) (n+1) c) w':=by
 rw[show ((n:Int)+1)=((n+1:Nat):Int) from by omega,run_slice_h w' _ _ _ _ (by kernel_rfl) _ _ (by omega) (by omega),show (sizeOf (Try.prog.elem 41)).run Try.prog w'= .ok 2 w' from by kernel_rfl,Result.andThen_ok]
 unfold sliced;rw[Int.toNat_natCast];simp[Addr.add]
def AnyOwn (w:World) (base:Nat) (e:TypeId) (size:Nat) (A:Option Addr) (n c:Nat):Prop:=∃vs,Own w base e size A n c vs
theorem only_set1 (w:World) (g j:Nat) (u:Value):Only (fun b=>b=g) w (w.setCell ⟨g,j,none⟩ u):=Only.setCell (S:=fun b=>b=g) (Only.refl _ _) (p:=⟨g,j,none⟩) (.inl rfl) _
theorem AnyOwn.set {w:World} {base size n c:Nat} {e:TypeId} {A:Option Addr} (h:AnyOwn w base e size A n c) (g j:Nat) (u:Value):AnyOwn (w.setCell ⟨g,j,none⟩ u) base e size A n c:=by
 obtain ⟨vs,h⟩:=h;by_cases hA:A=some ⟨g,0,none⟩
 ·subst hA;exact ⟨_,own_set h j u⟩
 refine ⟨vs,Own.only (S:=fun b=>b=g) h (only_set1 w g j u) fun b o e e2=>hA ?_⟩;have h0:=(Own.lt h b o e).2.2;rw[e,e2,h0]
structure SpoilK (w:World) (base m g8 cF n g5 cD:Nat) (hs':List FunM) (k:Nat) (fsx:List FunM):Prop where
 funs:OwnF7 w base m g8 cF fsx
 len:fsx.length=m
 rest:∀j,k≤j→fsx[j]?=hs'[j]?
 code:∀f∈hs',AnyOwn w base 45 2 f.A f.code.length f.c
 data:AnyOwn w base 5 1 (some ⟨g5,0,none⟩) n cD
theorem SpoilK.code_set {w:World} {base m g8 cF n g5 cD k:Nat} {hs' fsx:List FunM} (h:SpoilK w base m g8 cF n g5 cD hs' k fsx) {f:FunM} (hf:f∈hs') {g9:Nat} (hA:f.A=some ⟨g9,0,none⟩) (j:Nat) (u:Value):SpoilK (w.setCell ⟨g9,j,none⟩ u) base m g8 cF n g5 cD hs' k fsx:=by
 refine ⟨?_,h.len,h.rest,fun f hf=>(h.code f hf).set _ _ _,h.data.set _ _ _⟩;obtain ⟨vs,hv⟩:=h.code f hf;rw[hA] at hv;exact Own.only h.funs (only_set1 w g9 j u) fun b o e e2=>own_ne hv h.funs (by decide) g9 rfl (by rw[e, ←e2];rfl)
theorem SpoilK.fun_set {w:World} {base m g8 cF n g5 cD k:Nat} {hs' fsx:List FunM} (h:SpoilK w base m g8 cF n g5 cD hs' k fsx) (hk:k<m):SpoilK ((((w.setCell ⟨g8,k*4,none⟩ (.int .i64 (-5))).setCell ⟨g8,k*4+1,none⟩ (.int .i64 0)).setCell ⟨g8,k*4+2,none⟩ (.int .i64 0)).setCell ⟨g8,k*4+3,none⟩ (.slice none 0 0)) base m g8 cF n g5 cD hs' (k+1) (fsx.set k ⟨-5,0,0,none,0,[]⟩):=by
 have hkl:k<fsx.length:=by rw[h.len];exact hk
 refine ⟨?_,by rw[List.length_set];exact h.len,fun j hj=>?_,fun f hf=>((((h.code f hf).set _ _ _).set _ _ _).set _ _ _).set _ _ _,(((h.data.set _ _ _).set _ _ _).set _ _ _).set _ _ _⟩
 ·have h4:=own_set (own_set (own_set (own_set h.funs (k*4) (.int .i64 (-5))) (k*4+1) (.int .i64 0)) (k*4+2) (.int .i64 0)) (k*4+3) (.slice none 0 0);have hs:=funCells_set (fsx++[markF7]) k ⟨-5,0,0,none,0,[]⟩ (by rw[List.length_append];omega)
  dsimp only[List.length_nil] at hs;rw[hs,List.set_append_left _ _ hkl] at h4;exact h4
 rw[List.getElem?_set_ne (by omega)]
 exact h.rest j (by omega)
set_option maxRecDepth 100000 in
set_option maxHeartbeats 20000000 in
theorem kept13_only (p q:PrgM) (base:Nat) (w0 w:World) (hp:PrgAt w p) (hsm:q.plain=p.plain) (h0:Lent13 w0 base q) (hL:Lent13 w base q) (hbw:base≤w.heap.size) (ht:w0.heap.size≤w.heap.size):Calls Try.prog 20 #[q.val,p.val] w fun e w'=>e= .returned (.bool true)∧Only (fun b=>base≤b∧b<w0.heap.size) w w':=by
 have hpok:=hp.ok;rw[←hsm] at hpok;have hs:=fun w1 (h1:PrgAt w1 q) (h2:PrgAt w1 p)=>refSameP_any q p w1 h1 h2;rw[(sameP_iff _ _).2 hsm] at hs;have hq:PrgAt w q:=hL.mine.at_ hpok;obtain ⟨mem0,AD0,cD0,data0,AF0,cF0,fs⟩:=p;obtain ⟨mem,AD,cD,data,AF,cF,hs'⟩:=q;injection hsm with e1 e2 e3
 dsimp only at e1 e2 e3;subst e1;subst e2;have hdl:data.length≤140737488351232:=hp.dlen;have hfl:fs.length≤2932031007402:=hp.flen;obtain ⟨n,hn⟩:∃n,n=data.length:=⟨_,rfl⟩;obtain ⟨m,hm⟩:∃m,m=fs.length:=⟨_,rfl⟩;have hhs:hs'.length=m:=by have:=congrArg List.length e3;rw[List.length_map,List.length_map] at this;rw[this];exact hm.symm
 obtain ⟨hD,hF,hR⟩:=hL;obtain ⟨T,hT⟩:∃T,T=w0.heap.size:=⟨_,rfl⟩;rw[←hT] at ht ⊢;have hRT:∀f∈hs',∀b,f.A.map (·.block)=some b→b<T:=fun f hf b e=>by rw[hT];exact (h0.row.lt f hf b e).2
 have hDT:=Own.row h0.data;have hFT:=Own.row h0.funs;rw[←hT] at hDT hFT;dsimp only at hDT hFT;dsimp only at hD hF hR;unfold OwnB at hD;rw[List.map_append, ←hn] at hD;rw[hhs] at hF hR;obtain ⟨g5,rfl,hg5a,hg5b⟩:=own_some hD (by omega)
 obtain ⟨g8,rfl,hg8a,hg8b⟩:=own_some hF (by omega)
 have hdn:n≤140737488351232:=by omega
 have hfm:m≤2932031007402:=by omega
 have hcd:=own_cap hD;have HT:=Lib.hid (show T≤w.heap.size∧g5<T∧g8<T from ⟨ht,(hDT g5 rfl).2,(hFT g8 rfl).2⟩)
 clear hDT hFT ht hT h0;have hcf:=own_cap hF;have hqv:(⟨mem,some ⟨g5,0,none⟩,cD,data,some ⟨g8,0,none⟩,cF,hs'⟩:PrgM).val= .agg #[.int .i64 mem,.slice (some ⟨g5,0,none⟩) n cD,.slice (some ⟨g8,0,none⟩) m cF]:=by dsimp only[PrgM.val];rw[hhs, ←hn]
 have hpv:(⟨mem,AD0,cD0,data,AF0,cF0,fs⟩:PrgM).val= .agg #[.int .i64 mem,.slice AD0 n cD0,.slice AF0 m cF0]:=by dsimp only[PrgM.val];rw[←hn, ←hm]
 rw[hqv,hpv];have HP:=Lib.hid hp;have HQ:=Lib.hid hq;have HS0:=Lib.hid hs;have HV:=Lib.hid (And.intro hqv hpv);have HN:=Lib.hid hn;have HM:=Lib.hid hm;have HR2l:=Lib.hid hRT;clear hRT;have HE:=Lib.hid (show hs'.map FunM.plain=fs.map FunM.plain∧hs'.length=m from ⟨e3,hhs⟩)
 obtain ⟨w1,hw1⟩:∃w1,w1=(w.alloc (.cells #[.int .i64 mem,.slice (some ⟨g5,0,none⟩) n cD,.slice (some ⟨g8,0,none⟩) m cF] 26)).alloc (.cells #[.int .i64 mem,.slice AD0 n cD0,.slice AF0 m cF0] 26):=⟨_,rfl⟩;have hb1:Below w.heap.size w w1:=by rw[hw1];exact ((Below.refl _ _).alloc (Nat.le_refl _) _).alloc (by simp) _
 have hz1:w1.heap.size=w.heap.size+2:=by rw[hw1];simp
 have hX1:Blk w1 w.heap.size 26 #[.int .i64 mem,.slice (some ⟨g5,0,none⟩) n cD,.slice (some ⟨g8,0,none⟩) m cF]:=by rw[hw1];exact (Blk.new w _ _).alloc _
 have hY1:Blk w1 (w.heap.size+1) 26 #[.int .i64 mem,.slice AD0 n cD0,.slice AF0 m cF0]:=by
  rw[hw1];have h:=Blk.new (w.alloc (.cells #[.int .i64 mem,.slice (some ⟨g5,0,none⟩) n cD,.slice (some ⟨g8,0,none⟩) m cF] 26)) 26 #[.int .i64 mem,.slice AD0 n cD0,.slice AF0 m cF0];rw[World.size_alloc] at h;exact h
 obtain ⟨gl,hgl⟩:∃g,g=w.heap.size:=⟨_,rfl⟩;obtain ⟨gp,hgp⟩:∃g,g=w.heap.size+1:=⟨_,rfl⟩;rw[←hgl] at hX1;rw[←hgp] at hY1;have HG:=Lib.hid (show gl=w.heap.size∧gp=w.heap.size+1∧w1.heap.size=w.heap.size+2∧base≤w.heap.size∧g5<w.heap.size∧g8<w.heap.size∧base≤g5∧base≤g8 from ⟨hgl,hgp,hz1,hbw,hg5b,hg8b,hg5a,hg8a⟩)
 have hSm:=HS0.out w1.drew (HQ.out.below (hb1.trans ((Below.refl _ w1).drew.mono hb1.size))) (HP.out.below (hb1.trans ((Below.refl _ w1).drew.mono hb1.size)));rw[hqv,hpv] at hSm;have HSm:=Lib.hid hSm;have hD1:OwnD w1 base n g5 cD data:=Own.below hD hb1 (Nat.le_refl _);have hF1:OwnF7 w1 base m g8 cF hs':=Own.below hF hb1 (Nat.le_refl _);have hR1:RowK w1 base m hs':=hR.only (S:=fun _=>False) (Only.of_fresh hb1) (fun _ _ _ _ h=>h);have x0:=hX1.cell 0;have x1:w1.cell? ⟨gl,1,none⟩=some (.slice (some ⟨g5,0,none⟩) n cD):=hX1.cell 1;have x2:w1.cell? ⟨gl,2,none⟩=some (.slice (some ⟨g8,0,none⟩) m cF):=hX1.cell 2;have y0:=hY1.cell 0;have y1:w1.cell? ⟨gp,1,none⟩=some (.slice AD0 n cD0):=hY1.cell 1;have y2:w1.cell? ⟨gp,2,none⟩=some (.slice AF0 m cF0):=hY1.cell 2;have xl:=hX1.lt;have yl:=hY1.lt
 have d5:w1.cell? ⟨g5,n,none⟩=some (.int .u8 169):=by
  have h:=(own_at hD1 n (by rw[List.length_append,List.length_map, ←hn];simp)).1
  rw[h,List.getElem_append_right (by rw[List.length_map, ←hn];exact Nat.le_refl _)]
  simp[hn]
 have f8:w1.cell? ⟨g8,m*4,none⟩=some (.int .i64 (-7)):=by
  have h:=(own_at hF1 (m*4) (by rw[funCells_len,List.length_append,hhs,List.length_singleton];omega)).1
  have h2:=funCells_get (hs'++[markF7]) m 0 (by rw[List.length_append,hhs,List.length_singleton];omega) (by omega)
  rw[Nat.add_zero] at h2;rw[h, ←List.getElem?_eq_getElem,h2,List.getElem_append_right (by omega)]
  simp[hhs,funCells,markF7]
 have l5:g5<w1.heap.size:=by omega
 have l8:g8<w1.heap.size:=by omega
 have HX1:=Lib.hid hX1;have HY1:=Lib.hid hY1;have HD1:=Lib.hid hD1;have HF1:=Lib.hid hF1;have HR1:=Lib.hid hR1;have Hb1:=Lib.hid hb1;have Hw1:=Lib.hid hw1;have g1:(n:Int)<((n+1:Nat):Int):=by omega
 have hwn:IntKind.i64.wrap ((n:Int)+1)=(n:Int)+1:=by rw[IntKind.wrap_i64];omega
 have hwm:IntKind.i64.wrap ((m:Int)+1)=(m:Int)+1:=by rw[IntKind.wrap_i64];omega
 have g2:(m:Int)<((m+1:Nat):Int):=by omega
 clear hX1 hY1 hD1 hF1 hR1 hb1 hw1 hSm hz1 hgl hgp hn hm hhs hp hq hs hqv hpv hD hF hR hpok e3 hdl hfl hbw hg5a hg5b hg8a hg8b;go_enter Try.func20,Try.ntmps20
 go_upto_region 1 with (fail)
 rw[←HG.out.2.1, ←Hw1.out, ←HG.out.1];have x0':w1.cell? ⟨gl,0,none⟩=some (.int .i64 mem):=x0;have y0':w1.cell? ⟨gp,0,none⟩=some (.int .i64 mem):=y0;clear x0 y0;obtain ⟨SC,hSCd⟩:∃S:World→Prop,S=(fun w'=>(w'.cell? ⟨gl,0,none⟩=some (.int .i64 mem)∧gl<w'.heap.size)∧(w'.cell? ⟨gl,1,none⟩=some (.slice (some ⟨g5,0,none⟩) n cD)∧gl<w'.heap.size)∧(w'.cell? ⟨gl,2,none⟩=some (.slice (some ⟨g8,0,none⟩) m cF)∧gl<w'.heap.size)∧(w'.cell? ⟨gp,0,none⟩=some (.int .i64 mem)∧gp<w'.heap.size)∧(w'.cell? ⟨gp,1,none⟩=some (.slice AD0 n cD0)∧gp<w'.heap.size)∧(w'.cell? ⟨gp,2,none⟩=some (.slice AF0 m cF0)∧gp<w'.heap.size)∧(w'.cell? ⟨g5,n,none⟩=some (.int .u8 169)∧g5<w'.heap.size)∧(w'.cell? ⟨g8,m*4,none⟩=some (.int .i64 (-7))∧g8<w'.heap.size)):=⟨_,rfl⟩;have hSC:SC w1.drew:=by rw[hSCd];exact ⟨⟨x0',xl⟩,⟨x1,xl⟩,⟨x2,xl⟩,⟨y0',yl⟩,⟨y1,yl⟩,⟨y2,yl⟩,⟨d5,l5⟩,⟨f8,l8⟩⟩
 have HSC:=Lib.hid (show SC w1.drew from hSC)
 have HSd:=Lib.hid hSCd;clear hSC hSCd;refine region_heldT 34 SC (by kernel_rfl) (by decide) ?_
 refine hwK 0 (.agg #[.int .i64 mem,.slice (some ⟨g5,0,none⟩) n cD,.slice (some ⟨g8,0,none⟩) m cF]) HSC.out ?_;simp only[Act.put,List.setIfInBounds_toArray];refine hwK 1 (.agg #[.int .i64 mem,.slice AD0 n cD0,.slice AF0 m cF0]) HSC.out ?_;simp only[Act.put];refine hwO 2 fun K hK=>?_;go_simp;refine HSm.out.mono ?_;rintro e w2 ⟨rfl,hb2⟩;have hb12:Below w1.heap.size w1 w2:=(Below.refl _ w1).drew.trans hb2
 have hSC2:SC w2:=by
  have h:=HSC.out;rw[HSd.out] at h ⊢;obtain ⟨⟨e0,k0⟩,⟨e1,k1⟩,⟨e2,k2⟩,⟨e3,k3⟩,⟨e4,k4⟩,⟨e5,k5⟩,⟨e6,k6⟩,⟨e7,k7⟩⟩:=h;obtain ⟨hc,-⟩:=bcell hb12;have hz:=hb12.size;exact ⟨⟨(hc _ _ k0).trans e0,Nat.lt_of_lt_of_le k0 hz⟩,⟨(hc _ _ k1).trans e1,Nat.lt_of_lt_of_le k1 hz⟩,⟨(hc _ _ k2).trans e2,Nat.lt_of_lt_of_le k2 hz⟩,⟨(hc _ _ k3).trans e3,Nat.lt_of_lt_of_le k3 hz⟩,⟨(hc _ _ k4).trans e4,Nat.lt_of_lt_of_le k4 hz⟩,⟨(hc _ _ k5).trans e5,Nat.lt_of_lt_of_le k5 hz⟩,⟨(hc _ _ k6).trans e6,Nat.lt_of_lt_of_le k6 hz⟩,⟨(hc _ _ k7).trans e7,Nat.lt_of_lt_of_le k7 hz⟩⟩
 refine hK.out _ _ hSC2 (fun hHeld=>?_);clear hK K hHeld;have Hb12:=Lib.hid hb12;have HSC2:=Lib.hid hSC2;clear hb2 hb12 HSC hSC2 x0' x1 x2 y0' y1 y2 d5 f8 xl yl l5 l8;have HSC:=HSC2;refine hwK 3 (.bool true) HSC.out ?_;simp only[Act.put];refine hwK 4 (.pointer (some ⟨gl,1,none⟩)) HSC.out ?_;simp only[Act.put];refine hwK 5 (.slice (some ⟨g5,0,none⟩) n cD) HSC.out ?_;simp only[Act.put];refine hwK 6 (.pointer (some ⟨gp,1,none⟩)) HSC.out ?_;simp only[Act.put];refine hwK 7 (.slice AD0 n cD0) HSC.out ?_;simp only[Act.put];refine hwK 8 (.int .i64 (n:Int)) HSC.out ?_;simp only[Act.put];refine hwK 9 (.int .i64 ((n:Int)+1)) HSC.out ?_;simp only[Act.put];refine hwK 10 (.slice (some ⟨g5,0,none⟩) (n+1) cD) HSC.out ?_ (hy:=by intro w hSw;rw[HSd.out] at hSw;obtain ⟨⟨e0,k0⟩,⟨e1,k1⟩,⟨e2,k2⟩,⟨e3,k3⟩,⟨e4,k4⟩,⟨e5,k5⟩,⟨e6,k6⟩,⟨e7,k7⟩⟩:=hSw;have q:=slice13uB g5 n cD w hcd hdn;go_simp)
 simp only[Act.put];refine hwK 11 (.pointer (some ⟨gp,1,none⟩)) HSC.out ?_;simp only[Act.put];refine hwK 12 (.slice AD0 n cD0) HSC.out ?_;simp only[Act.put];refine hwK 13 (.int .i64 (n:Int)) HSC.out ?_;simp only[Act.put];refine hwK 14 (.pointer (some ⟨g5,n,none⟩)) HSC.out ?_ (hy:=by intro w hSw;rw[HSd.out] at hSw;obtain ⟨⟨e0,k0⟩,⟨e1,k1⟩,⟨e2,k2⟩,⟨e3,k3⟩,⟨e4,k4⟩,⟨e5,k5⟩,⟨e6,k6⟩,⟨e7,k7⟩⟩:=hSw;go_simp;intro hh;omega)
 simp only[Act.put];refine hwK 15 (.int .u8 169) HSC.out ?_;simp only[Act.put];refine hwK 16 (.bool true) HSC.out ?_;simp only[Act.put];refine hwK 17 (.bool true) HSC.out ?_;simp only[Act.put];refine hwK 18 (.bool true) HSC.out ?_;simp only[Act.put];refine hwK 19 (.pointer (some ⟨gl,2,none⟩)) HSC.out ?_;simp only[Act.put];refine hwK 20 (.slice (some ⟨g8,0,none⟩) m cF) HSC.out ?_;simp only[Act.put];refine hwK 21 (.pointer (some ⟨gp,2,none⟩)) HSC.out ?_;simp only[Act.put];refine hwK 22 (.slice AF0 m cF0) HSC.out ?_;simp only[Act.put];refine hwK 23 (.int .i64 (m:Int)) HSC.out ?_;simp only[Act.put];refine hwK 24 (.int .i64 ((m:Int)+1)) HSC.out ?_;simp only[Act.put];refine hwK 25 (.slice (some ⟨g8,0,none⟩) (m+1) cF) HSC.out ?_ (hy:=by intro w hSw;rw[HSd.out] at hSw;obtain ⟨⟨e0,k0⟩,⟨e1,k1⟩,⟨e2,k2⟩,⟨e3,k3⟩,⟨e4,k4⟩,⟨e5,k5⟩,⟨e6,k6⟩,⟨e7,k7⟩⟩:=hSw;have q:=slice13uF g8 m cF w hcf (by omega);go_simp)
 simp only[Act.put];refine hwK 26 (.pointer (some ⟨gp,2,none⟩)) HSC.out ?_;simp only[Act.put];refine hwK 27 (.slice AF0 m cF0) HSC.out ?_;simp only[Act.put];refine hwK 28 (.int .i64 (m:Int)) HSC.out ?_;simp only[Act.put];refine hwK 29 (.pointer (some ⟨g8,m*4,none⟩)) HSC.out ?_ (hy:=by intro w hSw;rw[HSd.out] at hSw;obtain ⟨⟨e0,k0⟩,⟨e1,k1⟩,⟨e2,k2⟩,⟨e3,k3⟩,⟨e4,k4⟩,⟨e5,k5⟩,⟨e6,k6⟩,⟨e7,k7⟩⟩:=hSw;go_simp;intro hh;omega)
 simp only[Act.put];refine hwK 30 (.pointer (some ⟨g8,m*4,none⟩)) HSC.out ?_;simp only[Act.put];refine hwK 31 (.int .i64 (-7)) HSC.out ?_;simp only[Act.put];refine hwK 32 (.bool true) HSC.out ?_;simp only[Act.put];refine hwK 33 (.bool true) HSC.out ?_;simp only[Act.put];simp only[List.getElem_toArray,List.getElem_cons_succ,List.getElem_cons_zero,List.setIfInBounds_toArray,List.set_cons_succ,List.set_cons_zero];refine fun hInv=>⟨by kernel_rfl,?_⟩
 clear hInv;simp only[List.drop_succ_cons,List.drop_zero];have HD2:=Lib.hid (show OwnD w2 base n g5 cD data from Own.below HD1.out Hb12.out (Nat.le_refl _))
 have HF2:=Lib.hid (show OwnF7 w2 base m g8 cF hs' from Own.below HF1.out Hb12.out (Nat.le_refl _))
 have HR2:=Lib.hid (show RowK w2 base m hs' from HR1.out.only (S:=fun _=>False) (Only.of_fresh Hb12.out) (fun _ _ _ _ h=>h))
 have hX2:=HX1.out.below Hb12.out HX1.out.lt;have hY2:=HY1.out.below Hb12.out HY1.out.lt;have Hb2:=Lib.hid (show Below w.heap.size w w2 from Hb1.out.trans (Hb12.out.mono Hb1.out.size))
 have x1:w2.cell? ⟨gl,1,none⟩=some (.slice (some ⟨g5,0,none⟩) n cD):=hX2.cell 1;have x2:w2.cell? ⟨gl,2,none⟩=some (.slice (some ⟨g8,0,none⟩) m cF):=hX2.cell 2;have y2:w2.cell? ⟨gp,2,none⟩=some (.slice AF0 m cF0):=hY2.cell 2;have xl:=hX2.lt;have yl:=hY2.lt;have HX2:=Lib.hid hX2;have HX2b:=Lib.hid hX2;have HD2b:=Lib.hid HD2.out;clear hX2 hY2 HSC HSC2 HSd HX1 HY1 HD1 HF1 HR1;clear SC;go_wp2_with fail
 clear HX2 HD2;go_loopw [5,6,7] (fun ov i nv wr=>∃k:Nat,k≤m∧ov= .bool true∧i= .int .i64 (k:Int)∧wr=w2) (fun _ i _ _=>m-(intOf i).toNat)
 case atStart=>exact ⟨0,Nat.zero_le _,rfl,rfl,rfl⟩
 obtain ⟨k,hk,rfl,rfl,rfl⟩:=hrel;by_cases hlt:k<m
 ·have g3:(k:Int)<(m:Int):=by omega
  obtain ⟨b,off,hA,hb,hc⟩:=(HP.out.below Hb2.out).rv.at_ (by rw[funCells_len];have:=HM.out;dsimp only;omega)
  dsimp only at hA;subst hA;have hkl:k<fs.length:=by have:=HM.out;omega
  have hkh:k<hs'.length:=by have:=HE.out.2;omega
  obtain ⟨-,-,-,p3⟩:=fun_cells hc k hkl;have hxk:hs'[k]?=some hs'[k]:=List.getElem?_eq_getElem hkh
  have hcode:fs[k].code=hs'[k].code:=by
   have h1:(hs'.map FunM.plain)[k]?=(fs.map FunM.plain)[k]?:=by rw[HE.out.1]
   rw[List.getElem?_map,List.getElem?_map,hxk,List.getElem?_eq_getElem hkl] at h1;injection h1 with h1
   injection h1 with _ _ _ h1
   exact h1.symm
  have hFa:=HP.out.funs _ (List.getElem_mem hkl);have hcl:hs'[k].code.length≤8796093021952:=by rw[←hcode];exact hFa.len
  have hfo:=own_at HF2.out (k*4+3) (by rw[funCells_len,List.length_append,List.length_singleton];omega)
  have hfv:((hs'++[markF7]).flatMap funCells)[k*4+3]?=some (.slice hs'[k].A hs'[k].code.length hs'[k].c):=by
   rw[funCells_get _ k 3 (by rw[List.length_append];omega) (by omega),List.getElem_append_left hkh]
   rfl
  have z3:wr.cell? ⟨g8,k*4+3,none⟩=some (.slice hs'[k].A hs'[k].code.length hs'[k].c):=by rw[hfo.1, ←hfv,List.getElem?_eq_getElem]
  have hUk:=HR2.out.done k _ hxk hlt;rw[hcode] at p3;obtain ⟨x,hxx⟩:∃x,x=hs'[k]:=⟨_,rfl⟩;rw[←hxx] at hUk z3 hcl hxk p3;obtain ⟨xa,xl',xr,xA,xc,xcode⟩:=x;obtain ⟨L,hL⟩:∃L,L=xcode.length:=⟨_,rfl⟩;unfold CodeK at hUk;dsimp only at z3 hcl p3 hUk;rw[←hL] at z3 hcl p3 hUk;obtain ⟨g9,rfl,hg9a,hg9b⟩:=own_some hUk (by omega)
  have hc9:=own_cap hUk
  have d9:wr.cell? ⟨g9,L*2,none⟩=some (.int .i64 (-7)):=by
   have hlen:∀l:List Ins,(l.flatMap insCells).length=l.length*2:=fun l=>by
    induction l with
    |nil=>rfl
    |cons y l ih=>rw[List.flatMap_cons,List.length_append,ih,List.length_cons];simp[insCells];omega
   have h:=(own_at hUk (L*2) (by rw[hlen,List.length_append, ←hL,List.length_singleton];omega)).1
   rw[h, ←List.getElem?_eq_getElem,List.flatMap_append,List.getElem?_append_right (by rw[hlen, ←hL];exact Nat.le_refl _),hlen, ←hL,Nat.sub_self]
   rfl
  have hsl:=fun w'=>slice13uI g9 L xc w' hc9 (by omega)
  have hwl:IntKind.i64.wrap ((L:Int)+1)=(L:Int)+1:=by rw[IntKind.wrap_i64];omega
  have g4:(L:Int)<((L+1:Nat):Int):=by omega
  obtain ⟨yA,yc,hyy⟩:∃A c,A=fs[k].A∧c=fs[k].c:=⟨_,_,rfl,rfl⟩;rw[←hyy.1, ←hyy.2] at p3;clear hyy hUk hL hxk hxx hfv hfo hFa hcode hc hb hg9a hg9b;go_wp2_with fail
  refine ⟨⟨k+1,by omega,rfl,by first|rfl|go_num,trivial⟩,by simp[intOf];omega⟩
 obtain rfl:m=k:=by omega
 have hSp:SpoilK wr base m g8 cF n g5 cD hs' 0 hs':=by
  refine ⟨HF2.out,HE.out.2,fun _ _=>rfl,fun f hf=>⟨_,HR2.out.mine.code f hf⟩,⟨_,own_short HD2b.out rfl⟩⟩
 have HSp:=Lib.hid hSp;have HR2m:=Lib.hid HR2.out.lt;clear hSp HF2 HR2 HD2b HS0 HV HSm HQ x1;go_wp2_with fail
 clear y2 yl;go_loopw [8,9] (fun i jv wy=>∃(k:Nat) (fsx:List FunM),k≤m∧i= .int .i64 (k:Int)∧SpoilK wy base m g8 cF n g5 cD hs' k fsx∧Only (fun b=>base≤b∧b<T) wr wy) (fun i _ _=>m-(intOf i).toNat)
 case atStart=>exact ⟨0,hs',Nat.zero_le _,rfl,HSp.out,Only.refl _ _⟩
 rename World=>wy;obtain ⟨k,fsx,hk2,rfl,hsp,hO⟩:=hrel;have hXy:=HX2b.out.only hO (by have:=HG.out;have:=HT.out;omega)
 have x2y:wy.cell? ⟨gl,2,none⟩=some (.slice (some ⟨g8,0,none⟩) m cF):=hXy.cell 2;have x1y:wy.cell? ⟨gl,1,none⟩=some (.slice (some ⟨g5,0,none⟩) n cD):=hXy.cell 1;have xly:=hXy.lt;have HXy:=Lib.hid hXy;have HspK:=Lib.hid hsp;have HOy:=Lib.hid hO;clear hXy hsp hO x2 xl;by_cases hlt2:k<m
 ·have g3:(k:Int)<(m:Int):=by omega
  have hkh:k<hs'.length:=by have:=HE.out.2;omega
  have hkf:k<fsx.length:=by have:=HspK.out.len;omega
  have hxk:fsx[k]?=some hs'[k]:=by rw[HspK.out.rest k (Nat.le_refl _)];exact List.getElem?_eq_getElem hkh
  have hfv:((fsx++[markF7]).flatMap funCells)[k*4+3]?=some (.slice hs'[k].A hs'[k].code.length hs'[k].c):=by
   rw[funCells_get _ k 3 (by rw[List.length_append];omega) (by omega),List.getElem_append_left hkf]
   rw[List.getElem?_eq_getElem hkf] at hxk;injection hxk with hxk
   rw[hxk];rfl
  have hfo:=own_at HspK.out.funs (k*4+3) (by rw[funCells_len,List.length_append,List.length_singleton];omega)
  have z3:wy.cell? ⟨g8,k*4+3,none⟩=some (.slice hs'[k].A hs'[k].code.length hs'[k].c):=by rw[hfo.1, ←hfv,List.getElem?_eq_getElem]
  have hmem:hs'[k]∈hs':=List.getElem_mem hkh;obtain ⟨x,hxx⟩:∃x,x=hs'[k]:=⟨_,rfl⟩;rw[←hxx] at z3 hmem;obtain ⟨xa,xl',xr,xA,xc,xcode⟩:=x;obtain ⟨L,hL⟩:∃L,L=xcode.length:=⟨_,rfl⟩
  have hcl:L≤8796093021952:=by
   obtain ⟨f,hf,e⟩:=List.mem_map.1 (show FunM.plain ⟨xa,xl',xr,xA,xc,xcode⟩∈fs.map FunM.plain from by rw[←HE.out.1];exact List.mem_map.2 ⟨_,hmem,rfl⟩)
   have h1:=(HP.out.funs f hf).len;injection e with _ _ _ e
   dsimp only at e;rw[hL, ←e];exact h1
  dsimp only at z3;rw[←hL] at z3;have HMem:=Lib.hid hmem;have HL:=Lib.hid hL;clear hmem hL hxx hfv hfo hxk;go_wp2_with fail
  go_loopw [9] (fun jv wz=>∃j:Nat,j≤L∧jv= .int .i64 (j:Int)∧SpoilK wz base m g8 cF n g5 cD hs' k fsx∧wz.cell? ⟨g8,k*4+3,none⟩=some (.slice xA L xc)∧Only (fun b=>base≤b∧b<T) wr wz) (fun jv _=>L-(intOf jv).toNat)
  case atStart=>exact ⟨0,Nat.zero_le _,rfl,HspK.out,z3,HOy.out⟩
  rename World=>wz;obtain ⟨j,hj,rfl,hsz,z3z,hOz⟩:=hrel;have hXz:=HX2b.out.only hOz (by have:=HG.out;have:=HT.out;omega)
  have x2z:wz.cell? ⟨gl,2,none⟩=some (.slice (some ⟨g8,0,none⟩) m cF):=hXz.cell 2;have xlz:=hXz.lt;have HSz:=Lib.hid hsz;have HOz:=Lib.hid hOz;clear hXz hsz hOz x2y xly x1y z3;by_cases hltj:j<L
  ·have g4:(j:Int)<(L:Int):=by omega
   obtain ⟨vs,hv⟩:=HSz.out.code _ HMem.out;dsimp only at hv;rw[←HL.out] at hv;obtain ⟨g9,rfl,hg9a,hg9b⟩:=own_some hv (by omega)
   have hvl:=hv.1;obtain ⟨o0,r0,-⟩:=own_at hv (j*2) (by omega)
   obtain ⟨o1,r1,-⟩:=own_at hv (j*2+1) (by omega)
   have hg9l:=(HR2m.out _ HMem.out g9 rfl);have hne9: ¬ g9=g8:=fun e=>own_ne hv HSz.out.funs (by decide) g9 rfl (by rw[e];rfl)
   obtain ⟨v0,o0'⟩:∃v,wz.cell? ⟨g9,j*2,none⟩=some v:=⟨_,o0⟩;obtain ⟨v1,o1'⟩:∃v,wz.cell? ⟨g9,j*2+1,none⟩=some v:=⟨_,o1⟩;clear o0 o1;clear hv hvl;go_wp2_with fail
   refine ⟨⟨j+1,by omega,by first|rfl|go_num,(HSz.out.code_set HMem.out rfl _ _).code_set HMem.out rfl _ _,?_,?_⟩,by simp[intOf];omega⟩
   ·rw[((only_set1 _ g9 (j*2+1) _).cell (p:=⟨g8,k*4+3,none⟩) (by simp;exact (own_at HSz.out.funs 0 (by rw[funCells_len,List.length_append,List.length_singleton];omega)).2.2) (fun e=>hne9 e.symm)),((only_set1 _ g9 (j*2) _).cell (p:=⟨g8,k*4+3,none⟩) (own_at HSz.out.funs 0 (by rw[funCells_len,List.length_append,List.length_singleton];omega)).2.2 (fun e=>hne9 e.symm))]
    exact z3z
   exact (HOz.out.setCell (p:=⟨g9,j*2,none⟩) (.inl ⟨hg9a,HR2l.out _ HMem.out g9 rfl⟩) _).setCell (p:=⟨g9,j*2+1,none⟩) (.inl ⟨hg9a,HR2l.out _ HMem.out g9 rfl⟩) _
  have hq0:=own_at HSz.out.funs (k*4) (by rw[funCells_len,List.length_append,List.length_singleton];omega)
  have hq1:=own_at HSz.out.funs (k*4+1) (by rw[funCells_len,List.length_append,List.length_singleton];omega)
  have hq2:=own_at HSz.out.funs (k*4+2) (by rw[funCells_len,List.length_append,List.length_singleton];omega)
  have hq3:=own_at HSz.out.funs (k*4+3) (by rw[funCells_len,List.length_append,List.length_singleton];omega)
  obtain ⟨v0,hv0⟩:∃v,wz.cell? ⟨g8,k*4,none⟩=some v:=⟨_,hq0.1⟩;obtain ⟨v1,hv1⟩:∃v,wz.cell? ⟨g8,k*4+1,none⟩=some v:=⟨_,hq1.1⟩;obtain ⟨v2,hv2⟩:∃v,wz.cell? ⟨g8,k*4+2,none⟩=some v:=⟨_,hq2.1⟩;have r0:=hq0.2.1;have r1:=hq1.2.1;have r2:=hq2.2.1;have r3:=hq3.2.1;have l8z:=hq0.2.2;clear hq0 hq1 hq2 hq3;go_wp2_with fail
  have hA8:base≤g8:=HG.out.2.2.2.2.2.2.2;have hB8:g8<T:=HT.out.2.2;refine ⟨⟨k+1,_,by omega,by first|rfl|go_num,HSz.out.fun_set hlt2,?_⟩,by simp[intOf];omega⟩
  exact (((HOz.out.setCell (p:=⟨g8,k*4,none⟩) (.inl ⟨hA8,hB8⟩) _).setCell (p:=⟨g8,k*4+1,none⟩) (.inl ⟨hA8,hB8⟩) _).setCell (p:=⟨g8,k*4+2,none⟩) (.inl ⟨hA8,hB8⟩) _).setCell (p:=⟨g8,k*4+3,none⟩) (.inl ⟨hA8,hB8⟩) _
 obtain rfl:m=k:=by omega
 go_wp2_with fail
 go_loopw [10] (fun jv wz=>∃j:Nat,j≤n∧jv= .int .i64 (j:Int)∧AnyOwn wz base 5 1 (some ⟨g5,0,none⟩) n cD∧Only (fun b=>base≤b∧b<T) wr wz) (fun jv _=>n-(intOf jv).toNat)
 case atStart=>exact ⟨0,Nat.zero_le _,rfl,HspK.out.data,HOy.out⟩
 rename World=>wz;obtain ⟨j,hj,rfl,hdz,hOz⟩:=hrel;have hXz:=HX2b.out.only hOz (by have:=HG.out;have:=HT.out;omega)
 have x1z:wz.cell? ⟨gl,1,none⟩=some (.slice (some ⟨g5,0,none⟩) n cD):=hXz.cell 1;have xlz:=hXz.lt;have HDz:=Lib.hid hdz;have HOz:=Lib.hid hOz;clear hXz hdz hOz x2y xly x1y;by_cases hltj:j<n
 ·have g4:(j:Int)<(n:Int):=by omega
  obtain ⟨vs,hv⟩:=HDz.out;have hvl:=hv.1;obtain ⟨o0,r0,l5z⟩:=own_at hv j (by omega)
  have hA5:base≤g5:=HG.out.2.2.2.2.2.2.1;have hB5:g5<T:=HT.out.2.1;obtain ⟨v0,o0'⟩:∃v,wz.cell? ⟨g5,j,none⟩=some v:=⟨_,o0⟩;clear o0;clear hv hvl;go_wp2_with fail
  refine ⟨⟨j+1,by omega,by first|rfl|go_num,HDz.out.set _ _ _,HOz.out.setCell (p:=⟨g5,j,none⟩) (.inl ⟨hA5,hB5⟩) _⟩,by simp[intOf];omega⟩
 go_wp2_with fail
 go_ret
 exact ⟨rfl,(Only.of_fresh Hb2.out).trans HOz.out⟩
end
end Go.Proofs.Ytcmpmhlcfalbhaa
