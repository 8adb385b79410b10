import Derived.ProofKit
import Derived.OpenShut
import Derived.SizedLaws
import Derived.Test.YtcmpmhlcfalbhaaV05
import Derived.Test.YtcmpmhlcfalbhaaV07
import Derived.Test.YtcmpmhlcfalbhaaV08
import Derived.WalkKit
import Derived.Below
import Derived.Carry
namespace Go.Proofs.Ytcmpmhlcfalbhaa
section
section
open Go.ChangeShapes Go.WideShapes Go.ChangeAt Go.RowKit
section
variable {H:Type} {enc:TypeId×Value→H} {P:Program} {w:World} {base:Nat} {spare:Nat→Bool} {held:Bool}
def Wt (P:Program) (t:TypeId) (d:DataW H):Prop:=∀n∈d.weights P t,n≤reachBytes
theorem wt_each {t:TypeId} {ts:List TypeId} {d:DataW H} {ds:List (DataW H)} (h:(DataW.weightsEach P (t::ts) (d::ds)).all (·≤reachBytes)=true):Wt P t d∧(DataW.weightsEach P ts ds).all (·≤reachBytes)=true:=by
 simp only[DataW.weightsEach,List.all_append,Bool.and_eq_true] at h;refine ⟨fun n hn=>?_,h.2⟩;have:=List.all_eq_true.1 h.1 n hn;simpa using this
theorem wt_slice {t e:TypeId} {es rs:List (DataW H)} (ht:P.underlying t=some (.slice e)) (h:Wt P t (.slice es rs)):es.length*P.bytesOf e≤reachBytes∧∀d∈es,Wt P e d:=by
 have key:∀l:List (DataW H),∀d∈l,∀n∈d.weights P e,n∈DataW.weightsAll P e l:=by
  intro l;induction l with
  |nil=>intro d hd;cases hd
  |cons x l ih=>
   intro d hd n hn;simp only[DataW.weightsAll,List.mem_append];rcases List.mem_cons.1 hd with rfl|hd
   ·exact .inl hn
   exact .inr (ih d hd n hn)
 refine ⟨?_,fun d hd n hn=>h n ?_⟩
 ·have h1:=h ((es.length+rs.length)*P.bytesOf e) (by simp[DataW.weights,ht])
  exact Nat.le_trans (Nat.mul_le_mul_right _ (Nat.le_add_right _ _)) h1
 simp only[DataW.weights,ht,List.mem_cons,List.mem_append];exact .inr (.inl (key es d hd n hn))
theorem wt_struct {t:TypeId} {fs:Array Field} {ds:List (DataW H)} (ht:P.underlying t=some (.struct fs)) (h:Wt P t (.agg ds)):(DataW.weightsEach P (fs.toList.map (·.type)) ds).all (·≤reachBytes)=true:=by
 rw[List.all_eq_true];intro n hn;have:=h n (by simp only[DataW.weights,ht];exact hn)
 simpa using this
theorem cells_at {a:Addr} {k:Nat} {cs:List Value} (h:w.cells? base a k=some cs):cs.length=k∧∀j,j<k→w.cell? (a.add j)=cs[j]?:=by
 obtain ⟨h1,h2,h3⟩:=World.cells?_some h;exact ⟨h2,fun j hj=>h3 j hj⟩
theorem open_sliceOf {α:Type} {t e:TypeId} (f:α→List Value) (Good:α→Prop) {k:Nat} (ht:P.underlying t=some (.slice e)) (hk:P.cellsOf e=k) (hk0:0<k)
  (hel:∀(fuel:Nat) (cs:List Value) (x:DataW H×List MemPlace),DataW.trod enc P w base spare held fuel e cs=some x→Wt P e x.1→∃y,cs=f y∧Good y)
  {fuel:Nat} {cs:List Value} {x:DataW H×List MemPlace} (h:DataW.trod enc P w base spare held fuel t cs=some x) (hw:Wt P t x.1):
  ∃(A:Option Addr) (c:Nat) (ys:List α),cs=[.slice A ys.length c]∧RV w A (ys.flatMap f)∧(A=none→ys.length=0∧c=0)∧ys.length≤c∧c≤maxLen∧ys.length*P.bytesOf e≤reachBytes∧∀y∈ys,Good y:=by
 rcases DataW.trod_slice ht h with ⟨rfl,_⟩|⟨a,len,cap,elems,rest,n,rfl,rfl,hx,hba,hlc,hcm,hlen,hcell,_,_⟩
 ·exact ⟨none,0,[],rfl,RV.nil _ _,fun _=>⟨rfl,rfl⟩,Nat.le_refl _,by simp[maxLen],by simp,by simp⟩
 ·subst hx;obtain ⟨hb1,hb2⟩:=wt_slice ht hw
  have hex:∀i,i<len→∃y,w.cells? base (a.add (i*k)) k=some (f y)∧Good y:=by
   intro i hi;have h1:=hcell i hi;rw[hk] at h1;have hi':i<elems.length:=by omega
   rw[List.getElem?_eq_getElem hi'] at h1;obtain ⟨cs',hc1,hc2⟩:=Option.bind_eq_some_iff.1 h1;obtain ⟨y,hy1,hy2⟩:=hel n cs' elems[i] hc2 (hb2 _ (List.mem_map.2 ⟨elems[i],List.getElem_mem hi',rfl⟩));exact ⟨y,by rw[hc1,hy1],hy2⟩
  have hall:∀m,m≤len→∃ys:List α,ys.length=m∧∀i,i<m→∃y,ys[i]?=some y∧w.cells? base (a.add (i*k)) k=some (f y)∧Good y:=by
   intro m;induction m with
   |zero=>exact fun _=>⟨[],rfl,fun i hi=>absurd hi (by omega)⟩
   |succ m ih=>
    intro hm;obtain ⟨ys,hl,hy⟩:=ih (by omega)
    obtain ⟨y,hc,hgd⟩:=hex m (by omega)
    refine ⟨ys++[y],by simp[hl],fun i hi=>?_⟩
    rcases Nat.lt_or_ge i m with hlt|hge
    ·rw[List.getElem?_append_left (by omega)]
     exact hy i hlt
    obtain rfl:i=m:=by omega
    exact ⟨y,by rw[List.getElem?_append_right (by omega),hl];simp,hc,hgd⟩
  have hys:=hall len (Nat.le_refl _);clear hall hex;obtain ⟨ys,hl,hy⟩:=hys;subst hl;refine ⟨some a,cap,ys,rfl,?_,fun h=>(by cases h),hlc,hcm,?_,fun y hmem=>?_⟩
  ·rcases Nat.eq_zero_or_pos ys.length with h0|h0
   ·left;rw[List.eq_nil_of_length_eq_zero h0];rfl
   obtain ⟨y0,hy0,hc0,_⟩:=hy 0 h0
   have hf:∀i y,ys[i]?=some y→(f y).length=k:=fun i y hi=>by
    obtain ⟨y',hy',hc',_⟩:=hy i (List.getElem?_eq_some_iff.1 hi).1;rw[hi] at hy';injection hy' with e
    subst e;exact (cells_at hc').1
   have hc00:=(cells_at hc0).2 0 hk0
   have hsp:∃v,w.cell? (a.add (0*k))=some v:=by
    have:0<(f y0).length:=by rw[hf 0 y0 hy0];exact hk0
    refine ⟨(f y0)[0],?_⟩;have e:(a.add (0*k)).add 0=a.add (0*k):=by unfold Addr.add;simp
    rw[e] at hc00;rw[hc00,List.getElem?_eq_getElem this]
   obtain ⟨b,off,sp⟩:=a;obtain ⟨v,hv⟩:=hsp;have hs0:(⟨b,off,sp⟩:Addr).add (0*k)=⟨b,off,sp⟩:=by unfold Addr.add;simp
   rw[hs0] at hv;obtain rfl:sp=none:=World.cell?_spot hv
   have hblk:b<w.heap.size:=by
    have:=World.cells?_block hc0 hk0;rw[hs0] at this;exact this
   right
   refine ⟨b,off,rfl,hblk,fun j u hu=>?_⟩
   have key:∀(l:List α) (o:Nat),(∀i y,l[i]?=some y→(f y).length=k∧∀j,j<k→w.cell? ⟨b,o+i*k+j,none⟩=(f y)[j]?)→∀j u,(l.flatMap f)[j]?=some u→w.cell? ⟨b,o+j,none⟩=some u:=by
    intro l;induction l with
    |nil=>intro o _ j u hu;simp at hu
    |cons y l ih=>
     intro o hl j u hu;obtain ⟨hl1,hl2⟩:=hl 0 y rfl;rw[List.flatMap_cons] at hu;rcases Nat.lt_or_ge j k with hjk|hjk
     ·rw[List.getElem?_append_left (by omega)] at hu
      have:=hl2 j hjk;rw[Nat.zero_mul,Nat.add_zero] at this;rw[this];exact hu
     rw[List.getElem?_append_right (by omega),hl1] at hu
     have:=ih (o+k) (fun i y hi=>by
      obtain ⟨h1,h2⟩:=hl (i+1) y (by simpa using hi)
      refine ⟨h1,fun j hj=>?_⟩;have:=h2 j hj;rw[Nat.succ_mul] at this;rw[←this];congr 2
      omega) (j-k) u hu
     rw[←this];congr 2
     omega
   refine key ys off (fun i y hi=>⟨hf i y hi,fun j hj=>?_⟩) j u hu;obtain ⟨y',hy',hc',_⟩:=hy i (List.getElem?_eq_some_iff.1 hi).1;rw[hi] at hy';injection hy' with e
   subst e;have:=(cells_at hc').2 j hj;rw[addr_add,addr_add] at this;exact this
  ·rw[List.length_map,hlen] at hb1;exact hb1
  obtain ⟨i,hi,rfl⟩:=List.mem_iff_getElem.1 hmem;obtain ⟨y',hy',_,hgd⟩:=hy i hi;rw[List.getElem?_eq_getElem hi] at hy';injection hy' with e
  rw[e];exact hgd
theorem flat_bv (ys:List UInt8):ys.flatMap (fun u=>[bv u])=ys.map bv:=by
 induction ys with
 |nil=>rfl
 |cons y l ih=>rw[List.flatMap_cons,ih];rfl
theorem open_byte {e:TypeId} (he:P.underlying e=some (.int .u8)) {fuel:Nat} {cs:List Value} {x:DataW H×List MemPlace} (h:DataW.trod enc P w base spare held fuel e cs=some x):∃u:UInt8,cs=[bv u]:=by
 obtain ⟨n,rfl,_,hwf⟩:=DataW.trod_int he h;have hb:=bounds_u8 hwf;refine ⟨UInt8.ofNat n.toNat,?_⟩;unfold bv;rw[toNat_ofNat8,Nat.mod_eq_of_lt (by omega),Int.toNat_of_nonneg hb.1]
theorem open_bytesOf {t e:TypeId} (ht:P.underlying t=some (.slice e)) (he:P.underlying e=some (.int .u8)) (hk:P.cellsOf e=1) (hby:P.bytesOf e=1)
  {fuel:Nat} {cs:List Value} {x:DataW H×List MemPlace} (h:DataW.trod enc P w base spare held fuel t cs=some x) (hw:Wt P t x.1):
  ∃p:Part,cs=[.slice p.A p.ys.length p.c]∧Sl w p∧p.ys.length≤140737488351232∧p.ys.length≤p.c:=by
 obtain ⟨A,c,ys,rfl,hrv,hnil,hlc,_,hb,_⟩:=open_sliceOf (fun u:UInt8=>[bv u]) (fun _=>True) ht hk (by decide) (fun fuel cs x hx _=>by
  obtain ⟨u,hu⟩:=open_byte he hx;exact ⟨u,hu,trivial⟩) h hw
 refine ⟨⟨A,c,ys⟩,rfl,⟨?_,hnil⟩,?_,hlc⟩
 ·rw[flat_bv] at hrv;exact hrv
 ·rw[hby,Nat.mul_one] at hb;exact hb
theorem arg_of {t e:TypeId} (ht:P.underlying t=some (.slice e)) {r:Reach} {b:Nat} {v:Value} {d:DataW H} {ps:List MemPlace} (hv:Value.okWide P w r b t v) (h:DataW.Trod enc P w base spare held t v d ps):
  ∃fuel,DataW.trod enc P w base spare held fuel t [v]=some (d,ps):=by
 obtain ⟨a,l,c,rfl⟩:=okWide_slice ht hv
 exact h
theorem arg_bytes {t e:TypeId} (ht:P.underlying t=some (.slice e)) (he:P.underlying e=some (.int .u8)) (hk:P.cellsOf e=1) (hby:P.bytesOf e=1) {r:Reach} {b:Nat} {v:Value} {d:DataW H} {ps:List MemPlace}
  (hv:Value.okWide P w r b t v) (h:DataW.Trod enc P w base spare held t v d ps) (hw:Wt P t d):∃p:Part,v=p.val∧Sl w p∧p.ys.length≤140737488351232∧p.ys.length≤p.c:=by
 obtain ⟨a,l,c,rfl⟩:=okWide_slice ht hv
 obtain ⟨fuel,hf⟩:=h
 obtain ⟨p,e1,h1⟩:=open_bytesOf ht he hk hby hf hw
 exact ⟨p,by simpa [Value.cells] using e1,h1⟩
end
end
section
open Go.ChangeShapes Go.WideShapes Go.ChangeAt Go.RowKit
theorem cells_int:Try.prog.cellsOf 3=1:=by kernel_rfl
theorem cells_byte:Try.prog.cellsOf 5=1:=by kernel_rfl
theorem bytes_byte:Try.prog.bytesOf 5=1:=by kernel_rfl
theorem cells_bytes:Try.prog.cellsOf 23=1:=by kernel_rfl
theorem ins_fields:(Try.prog.underlying 45).map (fun d=>match d with| .struct fs=>fs.toList.map (fun f=>(f.type,f.offset))|_=>[])=some [(3,0),(3,1)]:=by kernel_rfl
theorem cells_ins:Try.prog.cellsOf 45=2:=by kernel_rfl
theorem two_of {α:Type} (l:List α) (h:l.length=2):∃a b,l=[a,b]:=by
 match l,h with
 |[a,b],_=>exact ⟨a,b,rfl⟩
section
variable {H:Type} {enc:TypeId×Value→H} {w:World} {base:Nat} {spare:Nat→Bool} {held:Bool}
theorem fields_of {P:Program} {t:TypeId} {l:List (TypeId×Nat)} (h:(P.underlying t).map (fun d=>match d with| .struct fs=>fs.toList.map (fun f=>(f.type,f.offset))|_=>[])=some l) (hl:l≠[]):
  ∃fs:Array Field,P.underlying t=some (.struct fs)∧fs.toList.map (fun f=>(f.type,f.offset))=l:=by
 obtain ⟨d,hd,h1⟩:=Option.map_eq_some_iff.1 h
 cases d<;>first|exact ⟨_,hd,h1⟩|exact absurd h1.symm hl
theorem open_fields {P:Program} {t:TypeId} {l:List (TypeId×Nat)} (hu:(P.underlying t).map (fun d=>match d with| .struct fs=>fs.toList.map (fun f=>(f.type,f.offset))|_=>[])=some l) (hl:l≠[])
  {fuel:Nat} {cs:List Value} {x:DataW H×List MemPlace} (h:DataW.trod enc P w base spare held fuel t cs=some x) (hw:Wt P t x.1):
  cs.length=P.cellsOf t∧∃(n:Nat),∀(i:Nat) (ft:TypeId) (o:Nat),l[i]?=some (ft,o)→∃y,DataW.trod enc P w base spare held n ft ((cs.drop o).take (P.cellsOf ft))=some y∧Wt P ft y.1:=by
 obtain ⟨fs,hfs,hfl⟩:=fields_of hu hl
 obtain ⟨xs,n,_,rfl,hlen,hxl,hx⟩:=DataW.trod_struct hfs h
 refine ⟨hlen,n,fun i ft o hi=>?_⟩
 rw[←hfl,List.getElem?_map] at hi
 obtain ⟨f,hf,hfe⟩:=Option.map_eq_some_iff.1 hi
 injection hfe with e1 e2
 subst e1 e2
 have hf':fs[i]?=some f:=by simpa using hf
 have hxi:=hx i f hf'
 have hi':i<xs.length:=by rw[hxl];exact (Array.getElem?_eq_some_iff.1 hf').1
 rw[List.getElem?_eq_getElem hi'] at hxi
 refine ⟨xs[i],hxi,fun m hm=>?_⟩
 have hall:=wt_struct hfs hw
 have hmem:=DataW.weights_mem_each (P:=P) (ts:=fs.toList.map (·.type)) (ds:=xs.map (·.1)) (j:=i) (t:=f.type) (d:=xs[i].1) (by rw[List.getElem?_map,hf];rfl) (by rw[List.getElem?_map,List.getElem?_eq_getElem hi'];rfl) m hm
 have:=List.all_eq_true.1 hall m hmem
 simpa using this
theorem open_ins {fuel:Nat} {cs:List Value} {x:DataW H×List MemPlace} (h:DataW.trod enc Try.prog w base spare held fuel 45 cs=some x) (hw:Wt Try.prog 45 x.1):
  ∃y:Ins,cs=insCells y∧InsOk y:=by
 obtain ⟨hlen,n,hf⟩:=open_fields ins_fields (by simp) h hw
 rw[cells_ins] at hlen
 obtain ⟨a,b,rfl⟩:=two_of cs hlen
 obtain ⟨y0,h0,_⟩:=hf 0 _ _ rfl
 obtain ⟨y1,h1,_⟩:=hf 1 _ _ rfl
 rw[cells_int] at h0 h1
 obtain ⟨k,e0,_,wk⟩:=DataW.trod_int Try.underlying3 h0
 obtain ⟨m,e1,_,wm⟩:=DataW.trod_int Try.underlying3 h1
 simp only[List.drop_zero,List.take_succ_cons,List.take_zero,List.cons.injEq,and_true,List.drop_succ_cons] at e0 e1
 subst e0 e1
 have bk:=bounds_i64 wk
 have bm:=bounds_i64 wm
 exact ⟨⟨k,m⟩,rfl,⟨bk.1,bk.2,bm.1,bm.2⟩⟩
set_option maxRecDepth 100000 in
theorem arg_ins {r:Reach} {b:Nat} {v:Value} {d:DataW H} {ps:List MemPlace}
  (hv:Value.okWide Try.prog w r b 41 v) (h:DataW.Trod enc Try.prog w base spare held 41 v d ps) (hw:Wt Try.prog 41 d):
  ∃(A:Option Addr) (c:Nat) (l:List Ins),v= .slice A l.length c∧(RV w A (l.flatMap insCells)∧(∀i∈l,InsOk i)∧(A=none→l.length=0∧c=0))∧l.length≤8796093021952:=by
 have hf:=arg_of Try.underlying41 hv h
 obtain ⟨fuel,hf⟩:=hf
 obtain ⟨A,c',ys,e1,hrv,hnil,hlc,hcm,hb,hg⟩:=open_sliceOf insCells InsOk Try.underlying41 cells_ins (by decide) (fun fuel cs x hx hw=>open_ins hx hw) hf hw
 rw[show Try.prog.bytesOf 45=16 from by kernel_rfl] at hb
 have hb2:ys.length≤8796093021952:=by
  have h3:ys.length*16≤140737488351232:=hb;omega
 exact ⟨A,c',ys,(List.cons.inj e1).1,⟨hrv,hg,hnil⟩,hb2⟩
set_option maxRecDepth 100000 in
theorem arg_one_ins {r:Reach} {b:Nat} {v:Value} {d:DataW H} {ps:List MemPlace}
  (hv:Value.okWide Try.prog w r b 45 v) (h:DataW.Trod enc Try.prog w base spare held 45 v d ps) (hw:Wt Try.prog 45 d):
  ∃x:Ins,v= .agg #[.int .i64 x.op,.int .i64 x.a]∧InsOk x:=by
 obtain ⟨fs,hfs,-⟩:=fields_of ins_fields (by simp)
 obtain ⟨cs,rfl,-⟩:=okWide_struct hfs hv
 obtain ⟨fuel,hf⟩:=h
 obtain ⟨y,hy,hok⟩:=open_ins hf hw
 refine ⟨y,?_,hok⟩
 have e:cs.toList=insCells y:=by simpa [Value.cells] using hy
 congr 1
 exact Array.toList_inj.1 e
set_option maxRecDepth 100000 in
theorem arg_bytesI {r:Reach} {b:Nat} {v:Value} {d:DataW H} {ps:List MemPlace}
  (hv:Value.okWide Try.prog w r b 23 v) (h:DataW.Trod enc Try.prog w base spare held 23 v d ps) (hw:Wt Try.prog 23 d):
  ∃(A:Option Addr) (c:Nat) (ys:List UInt8),v= .slice A ys.length c∧Sl w ⟨A,c,ys⟩∧ys.length≤140737488351232:=by
 obtain ⟨p,rfl,hs,hl,_⟩:=arg_bytes Try.underlying23 Try.underlying5 cells_byte bytes_byte hv h hw
 exact ⟨p.A,p.c,p.ys,rfl,hs,hl⟩
end
end
end
section
section
open Go.ChangeShapes Go.WideShapes Go.ChangeAt Go.RowKit
theorem func_fields:(Try.prog.underlying 43).map (fun d=>match d with| .struct fs=>fs.toList.map (fun f=>(f.type,f.offset))|_=>[])=some [(3,0),(3,1),(3,2),(41,3)]:=by kernel_rfl
theorem prg_fields:(Try.prog.underlying 26).map (fun d=>match d with| .struct fs=>fs.toList.map (fun f=>(f.type,f.offset))|_=>[])=some [(3,0),(23,1),(24,2)]:=by kernel_rfl
theorem cells_func:Try.prog.cellsOf 43=4:=by kernel_rfl
theorem cells_prg:Try.prog.cellsOf 26=3:=by kernel_rfl
theorem cells_inss:Try.prog.cellsOf 41=1:=by kernel_rfl
theorem cells_funs:Try.prog.cellsOf 24=1:=by kernel_rfl
theorem three_of {α:Type} (l:List α) (h:l.length=3):∃a b c,l=[a,b,c]:=by
 match l,h with
 |[a,b,c],_=>exact ⟨a,b,c,rfl⟩
theorem four_parts {α:Type} (l:List α) (h:l.length=4):∃a b c d,l=[a,b,c,d]:=by
 match l,h with
 |[a,b,c,d],_=>exact ⟨a,b,c,d,rfl⟩
section
variable {H:Type} {enc:TypeId×Value→H} {w:World} {base:Nat} {spare:Nat→Bool} {held:Bool}
theorem open_inss {fuel:Nat} {cs:List Value} {x:DataW H×List MemPlace} (h:DataW.trod enc Try.prog w base spare held fuel 41 cs=some x) (hw:Wt Try.prog 41 x.1):
  ∃(A:Option Addr) (c:Nat) (l:List Ins),cs=[.slice A l.length c]∧RV w A (l.flatMap insCells)∧(∀i∈l,InsOk i)∧(A=none→l.length=0∧c=0)∧l.length≤8796093021952:=by
 obtain ⟨A,c',ys,e1,hrv,hnil,hlc,hcm,hb,hg⟩:=open_sliceOf insCells InsOk Try.underlying41 cells_ins (by decide) (fun fuel cs x hx hw=>open_ins hx hw) h hw
 rw[show Try.prog.bytesOf 45=16 from by kernel_rfl] at hb
 have hb2:ys.length≤8796093021952:=by
  have h3:ys.length*16≤140737488351232:=hb;omega
 exact ⟨A,c',ys,e1,hrv,hg,hnil,hb2⟩
theorem open_fun {fuel:Nat} {cs:List Value} {x:DataW H×List MemPlace} (h:DataW.trod enc Try.prog w base spare held fuel 43 cs=some x) (hw:Wt Try.prog 43 x.1):
  ∃y:FunM,cs=funCells y∧FunAt w y:=by
 obtain ⟨hlen,n,hf⟩:=open_fields func_fields (by simp) h hw
 rw[cells_func] at hlen
 obtain ⟨a,b,c,d,rfl⟩:=four_parts cs hlen
 obtain ⟨y0,h0,_⟩:=hf 0 _ _ rfl
 obtain ⟨y1,h1,_⟩:=hf 1 _ _ rfl
 obtain ⟨y2,h2,_⟩:=hf 2 _ _ rfl
 obtain ⟨y3,h3,w3⟩:=hf 3 _ _ rfl
 rw[cells_int] at h0 h1 h2
 rw[cells_inss] at h3
 obtain ⟨k,e0,_,wk⟩:=DataW.trod_int Try.underlying3 h0
 obtain ⟨m,e1,_,wm⟩:=DataW.trod_int Try.underlying3 h1
 obtain ⟨q,e2,_,wq⟩:=DataW.trod_int Try.underlying3 h2
 obtain ⟨A,c',l,e3,hrv,hok,hnil,hl⟩:=open_inss h3 w3
 simp only[List.drop_zero,List.take_succ_cons,List.take_zero,List.cons.injEq,and_true,List.drop_succ_cons] at e0 e1 e2 e3
 subst e0 e1 e2 e3
 have bk:=bounds_i64 wk
 have bm:=bounds_i64 wm
 have bq:=bounds_i64 wq
 exact ⟨⟨k,m,q,A,c',l⟩,rfl,⟨hrv,hok,hnil,hl,bk.1,bk.2,bm.1,bm.2,bq.1,bq.2⟩⟩
theorem open_prg {fuel:Nat} {cs:List Value} {x:DataW H×List MemPlace} (h:DataW.trod enc Try.prog w base spare held fuel 26 cs=some x) (hw:Wt Try.prog 26 x.1):
  ∃p:PrgM,cs=[.int .i64 p.mem,.slice p.AD p.data.length p.cD,.slice p.AF p.fs.length p.cF]∧PrgAt w p:=by
 obtain ⟨hlen,n,hf⟩:=open_fields prg_fields (by simp) h hw
 rw[cells_prg] at hlen
 obtain ⟨a,b,c,rfl⟩:=three_of cs hlen
 obtain ⟨y0,h0,_⟩:=hf 0 _ _ rfl
 obtain ⟨y1,h1,w1⟩:=hf 1 _ _ rfl
 obtain ⟨y2,h2,w2⟩:=hf 2 _ _ rfl
 rw[cells_int] at h0
 rw[cells_bytes] at h1
 rw[cells_funs] at h2
 obtain ⟨k,e0,_,wk⟩:=DataW.trod_int Try.underlying3 h0
 obtain ⟨p,e1,hs,hl,_⟩:=open_bytesOf Try.underlying23 Try.underlying5 cells_byte bytes_byte h1 w1
 obtain ⟨A,c',fs,e2,hrv,hnil,hlc,hcm,hb,hg⟩:=open_sliceOf funCells (FunAt w) Try.underlying24 cells_func (by decide) (fun fuel cs x hx hw=>open_fun hx hw) h2 w2
 rw[show Try.prog.bytesOf 43=48 from by kernel_rfl] at hb
 have hb2:fs.length≤2932031007402:=by
  have h3:fs.length*48≤140737488351232:=hb;omega
 simp only[List.drop_zero,List.take_succ_cons,List.take_zero,List.cons.injEq,and_true,List.drop_succ_cons] at e0 e1 e2
 subst e0 e1 e2
 have bk:=bounds_i64 wk
 exact ⟨⟨k,p.A,p.c,p.ys,A,c',fs⟩,rfl,⟨hs,hl,hrv,hnil,hb2,hg,bk.1,bk.2⟩⟩
set_option maxRecDepth 100000 in
theorem arg_prg {r:Reach} {b:Nat} {v:Value} {d:DataW H} {ps:List MemPlace}
  (hv:Value.okWide Try.prog w r b 26 v) (h:DataW.Trod enc Try.prog w base spare held 26 v d ps) (hw:Wt Try.prog 26 d):
  ∃p:PrgM,v= .agg #[.int .i64 p.mem,.slice p.AD p.data.length p.cD,.slice p.AF p.fs.length p.cF]∧PrgAt w p:=by
 obtain ⟨fs,hfs,-⟩:=fields_of prg_fields (by simp)
 obtain ⟨cs,rfl,-⟩:=okWide_struct hfs hv
 obtain ⟨fuel,hf⟩:=h
 obtain ⟨y,hy,hok⟩:=open_prg hf hw
 refine ⟨y,?_,hok⟩
 have e:cs.toList=[.int .i64 y.mem,.slice y.AD y.data.length y.cD,.slice y.AF y.fs.length y.cF]:=by simpa [Value.cells] using hy
 congr 1
 exact Array.toList_inj.1 e
end
end
section
open Go.ChangeShapes Go.WideShapes Go.ChangeAt Go.RowKit
theorem spot_fields:(Try.prog.underlying 35).map (fun d=>match d with| .struct fs=>fs.toList.map (fun f=>(f.type,f.offset))|_=>[])=some [(3,0),(3,1)]:=by kernel_rfl
theorem cells_spot:Try.prog.cellsOf 35=2:=by kernel_rfl
section
variable {H:Type} {enc:TypeId×Value→H} {w:World} {base:Nat} {spare:Nat→Bool} {held:Bool}
theorem open_spot {fuel:Nat} {cs:List Value} {x:DataW H×List MemPlace} (h:DataW.trod enc Try.prog w base spare held fuel 35 cs=some x) (hw:Wt Try.prog 35 x.1):
  ∃y:Ins,cs=insCells y∧InsOk y:=by
 obtain ⟨hlen,n,hf⟩:=open_fields spot_fields (by simp) h hw
 rw[cells_spot] at hlen
 obtain ⟨a,b,rfl⟩:=two_of cs hlen
 obtain ⟨y0,h0,_⟩:=hf 0 _ _ rfl
 obtain ⟨y1,h1,_⟩:=hf 1 _ _ rfl
 rw[cells_int] at h0 h1
 obtain ⟨k,e0,_,wk⟩:=DataW.trod_int Try.underlying3 h0
 obtain ⟨m,e1,_,wm⟩:=DataW.trod_int Try.underlying3 h1
 simp only[List.drop_zero,List.take_succ_cons,List.take_zero,List.cons.injEq,and_true,List.drop_succ_cons] at e0 e1
 subst e0 e1
 have bk:=bounds_i64 wk
 have bm:=bounds_i64 wm
 exact ⟨⟨k,m⟩,rfl,⟨bk.1,bk.2,bm.1,bm.2⟩⟩
set_option maxRecDepth 100000 in
theorem arg_spots {r:Reach} {b:Nat} {v:Value} {d:DataW H} {ps:List MemPlace}
  (hv:Value.okWide Try.prog w r b 48 v) (h:DataW.Trod enc Try.prog w base spare held 48 v d ps) (hw:Wt Try.prog 48 d):
  ∃(A:Option Addr) (c:Nat) (l:List Ins),v= .slice A l.length c∧(RV w A (l.flatMap insCells)∧(∀i∈l,InsOk i)∧(A=none→l.length=0∧c=0))∧l.length≤8796093021952:=by
 have hf:=arg_of Try.underlying48 hv h
 obtain ⟨fuel,hf⟩:=hf
 obtain ⟨A,c',ys,e1,hrv,hnil,hlc,hcm,hb,hg⟩:=open_sliceOf insCells InsOk Try.underlying48 cells_spot (by decide) (fun fuel cs x hx hw=>open_spot hx hw) hf hw
 rw[show Try.prog.bytesOf 35=16 from by kernel_rfl] at hb
 have hb2:ys.length≤8796093021952:=by
  have h3:ys.length*16≤140737488351232:=hb;omega
 exact ⟨A,c',ys,(List.cons.inj e1).1,⟨hrv,hg,hnil⟩,hb2⟩
end
end
end
section
open Go.ChangeShapes Go.WideShapes Go.ChangeAt Go.RowKit
section
variable {H:Type} {enc:TypeId×Value→H} {P:Program}
theorem trodAll_below (hl:laidOutB P=true) {W W':World} (hb:Below W.heap.size W W'):∀(ts:List TypeId) (vs:List Value) (ds:List (DataW H)) (p:List MemPlace),
  (ts.all fun t=>P.readableRec t&&decide (t<P.types.size))=true→DataW.TrodAll enc P W 0 (fun _=>true) true ts vs ds p→(∀x∈p,x.block<W.heap.size)→DataW.TrodAll enc P W' 0 (fun b=>decide (b<W.heap.size)) true ts vs ds p:=by
 intro ts
 induction ts with
 |nil=>
  intro vs ds p _ h _;obtain ⟨rfl,rfl,rfl⟩:=trodAll_nil h;exact trodAll_mk0
 |cons t ts ih=>
  intro vs ds p hts h hlt;simp only[List.all_cons,Bool.and_eq_true,decide_eq_true_eq] at hts;obtain ⟨v,vs',d,ds',q,r,rfl,rfl,rfl,h0,hr⟩:=trodAll_cons h;exact trodAll_cons_mk (Below.trod hl hts.1.1 hts.1.2 h0 hb fun x hx=>hlt x (List.mem_append_left _ hx)) (ih vs' ds' r (by simpa using hts.2) hr fun x hx=>hlt x (List.mem_append_right _ hx))
theorem post_law {f:Func} {s:ChangeSpec} {W W':World} {args:Array Value} {ds gs:List (DataW H)} {before:List MemPlace} {tb:TypeId}
  (hl:laidOutB P=true) (hts:(f.params.toList.all fun t=>P.readableRec t&&decide (t<P.types.size))=true) (hv:s.vars=[]) (hbool:P.underlying tb=some .bool) (hres:f.resultTypes=#[tb])
  (hW:DataW.Whole enc P f.params.toList s.vars false W args.toList ds gs before)
  (hfn:s.fn H (ds++gs)={results:=[.lit (.bool true)],args:=ds}) (hb:Below W.heap.size W W'):
  s.post enc P f false true false false W args (.bool true) W':=by
 have hW':=hW
 obtain ⟨p,q,hA,hV,rfl,hfz,hnd⟩:=hW
 have hg:=hV
 rw[hv] at hg
 obtain ⟨rfl,rfl⟩:=trodVars_none hg
 have hlt:∀x∈p,x.block<W.heap.size:=fun x hx=>hW'.lt x (List.mem_append_left _ hx)
 refine ⟨ds,[],p++[],[],p,[],hW',?_,?_,?_,hb.frame _,fun h=>by cases h⟩
 ·rw[hfn,hres];exact trodAll_mk1 (shut_bool hbool _)
 ·rw[hfn];exact trodAll_below hl hb _ _ _ _ hts hA hlt
 ·rw[hfn,hv];rfl
end
end
end Go.Proofs.Ytcmpmhlcfalbhaa
