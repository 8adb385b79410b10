import Derived.Test.YtcmpmhlcfalbhaaV34
import Derived.Test.YtcmpmhlcfalbhaaV35
import Derived.Test.YtcmpmhlcfalbhaaV11
import Derived.Test.YtcmpmhlcfalbhaaV10
import Derived.Test.YtcmpmhlcfalbhaaV24
import Derived.BigQuiet
import Derived.Deep.CutRange
namespace Go.Proofs.Ytcmpmhlcfalbhaa
section
open Go.RowKit
theorem run_value13 {s:Sem Value} {v:Value} {w:World} (h:s.run Try.prog w= .ok v w):Sem.run Try.prog (do return Next.value (←s)) w= .ok (.value v) w:=by
 simp[go_sem,h]
theorem run_sums0 (w:World) {m:Int} {A B C D E G H I J K:Option Addr} {a b c d e f g h i j k l n q r s t u v x:Nat} {y z:Int}:(Instr.build 99 #[(0,.agg #[.int .i64 m,.slice A a b,.slice B c d]),(1,.agg #[.slice C e f,.slice D g h,.slice E i j,.slice G k l,.int .i64 y,.int .i64 z]),(2,.slice H n q),(3,.slice I r s),(4,.slice J t u),(5,.slice K v x)]).run Try.prog w= .ok (.agg #[.int .i64 m,.slice A a b,.slice B c d,.slice C e f,.slice D g h,.slice E i j,.slice G k l,.int .i64 y,.int .i64 z,.slice H n q,.slice I r s,.slice J t u,.slice K v x]) w:=by kernel_rfl
theorem run_sums (w:World) (ev:Operand→Value) (o:Oper) (ho:o.op=Op.build 99 #[(0,Operand.tmp 155),(1,Operand.tmp 156),(2,Operand.tmp 158),(3,Operand.tmp 160),(4,Operand.tmp 162),(5,Operand.tmp 164)]) {m:Int} {A B C D E G H I J K:Option Addr} {a b c d e f g h i j k l n q r s t u v x:Nat} {y z:Int}
  (h0:ev (.tmp 155)= .agg #[.int .i64 m,.slice A a b,.slice B c d]) (h1:ev (.tmp 156)= .agg #[.slice C e f,.slice D g h,.slice E i j,.slice G k l,.int .i64 y,.int .i64 z]) (h2:ev (.tmp 158)= .slice H n q) (h3:ev (.tmp 160)= .slice I r s) (h4:ev (.tmp 162)= .slice J t u) (h5:ev (.tmp 164)= .slice K v x):
  (execOp ev o).run Try.prog w= .ok (.value (.agg #[.int .i64 m,.slice A a b,.slice B c d,.slice C e f,.slice D g h,.slice E i j,.slice G k l,.int .i64 y,.int .i64 z,.slice H n q,.slice I r s,.slice J t u,.slice K v x])) w:=by
 obtain ⟨dst,op,ty,pos,aft,gd⟩:=o
 dsimp only at ho
 subst ho
 have e:execOp ev ⟨dst,Op.build 99 #[(0,Operand.tmp 155),(1,Operand.tmp 156),(2,Operand.tmp 158),(3,Operand.tmp 160),(4,Operand.tmp 162),(5,Operand.tmp 164)],ty,pos,aft,gd⟩=(do return .value (←Instr.build 99 #[(0,ev (.tmp 155)),(1,ev (.tmp 156)),(2,ev (.tmp 158)),(3,ev (.tmp 160)),(4,ev (.tmp 162)),(5,ev (.tmp 164))])):=by kernel_rfl
 rw[e,h0,h1,h2,h3,h4,h5]
 exact run_value13 (run_sums0 w)
theorem size_facts:(Try.prog.info? 32).map (·.size)=some 6:=by kernel_rfl
theorem size_fault:(Try.prog.info? 37).map (·.size)=some 3:=by kernel_rfl
theorem all_next {p q:Nat→Prop} {n:Nat} {b b':Bool} (h:b'=true↔(b=true∧(p n→q n))) (k:b=true↔∀g,g<n→p g→q g):b'=true↔∀g,g<n+1→p g→q g:=by
 rw[h,k];constructor
 ·rintro ⟨h1,h2⟩ g hg;rcases Nat.lt_succ_iff_lt_or_eq.1 hg with e|e
  ·exact h1 g e
  rw[e];exact h2
 exact fun h=>⟨fun g hg=>h g (Nat.lt_succ_of_lt hg),h n (Nat.lt_succ_self n)⟩
theorem RunM.hrows {w:World} {B:Nat} {hs lps:List (List Int)} {tops:List Int} {HR LR:List (LG×List Value)} {AH AT AL:Option Addr} {cH cT cL:Nat} (h:RunM w B hs lps tops HR LR AH cH AT cT AL cL) (h0:0<hs.length):HRows w AH hs:=by
 obtain ⟨b,r,hA,-,hb,-,-⟩:=rows_at h.hh h.sh h.oh h0;refine ⟨b,hA,hb,fun f hf=>?_⟩;obtain ⟨b',r',hA',-,-,hc,hO⟩:=rows_at h.hh h.sh h.oh hf;rw[hA] at hA';injection hA' with hA'
 injection hA' with e1
 subst e1;exact ⟨r'.A,r'.c,hc,RV.of_own hO⟩
theorem loopsL_yes {nx:Nat→List Nat} {j:Nat} (h:Reach nx 0 j∧Cyc nx j):loopsL nx (j+1)=loopsL nx j++[(j:Int)]:=by
 unfold loopsL;rw[List.range_succ,List.filter_append,List.map_append];simp[h]
theorem loopsL_no {nx:Nat→List Nat} {j:Nat} (h: ¬ (Reach nx 0 j∧Cyc nx j)):loopsL nx (j+1)=loopsL nx j:=by
 unfold loopsL;rw[List.range_succ,List.filter_append,List.map_append];simp[h]
theorem loopsL_len {nx:Nat→List Nat} {j:Nat}:(loopsL nx j).length≤j:=by
 unfold loopsL;rw[List.length_map];exact Nat.le_trans (List.length_filter_le _ _) (by rw[List.length_range];exact Nat.le_refl _)
end
section
open Go.RowKit
set_option maxRecDepth 100000 in
set_option maxHeartbeats 4000000 in
theorem sameInts13_any (A B:Option Addr) (cA cB:Nat) (a b:List Int) (w:World) (hA:RV w A (a.map fun x=> .int .i64 x)) (hB:RV w B (b.map fun x=> .int .i64 x)) (hla:a.length≤maxLen):
  Calls Try.prog 14 #[.slice A a.length cA,.slice B b.length cB] w fun e w'=>e= .returned (.bool (a==b))∧Below w.heap.size w w':=by
 unfold maxLen at hla
 obtain ⟨n,hn⟩:∃n,n=a.length:=⟨_,rfl⟩
 obtain ⟨m,hm⟩:∃n,n=b.length:=⟨_,rfl⟩
 rw[←hn, ←hm]
 rw[←hn] at hla
 have HN:=Lib.hid hn
 have HM:=Lib.hid hm
 have HA:=Lib.hid hA
 have HB:=Lib.hid hB
 clear hn hm hA hB
 obtain ⟨R,hR⟩:∃R,R=(a==b):=⟨_,rfl⟩
 rw[←hR]
 have HR:=Lib.hid hR
 clear hR
 go_enter Try.func14,Try.ntmps14
 by_cases hnm:(n:Int)=(m:Int)
 ·obtain rfl:n=m:=by omega
  go_wp2_with fail
  go_loopw [5] (fun i wr=>∃k:Nat,k≤n∧i= .int .i64 (k:Int)∧Hid (∀j,j<k→a[j]?=b[j]?)∧Below w.heap.size w wr) (fun i _=>n-(intOf i).toNat)
  case atStart=>exact ⟨0,Nat.zero_le _,rfl,Lib.hid (fun j h=>absurd h (Nat.not_lt_zero _)),Below.refl _ _⟩
  rename World=>wr;obtain ⟨k,hk,rfl,hE,hb⟩:=hrel;by_cases hlt:k<n
  ·have g1:(k:Int)<(n:Int):=by omega
   have hka:k<a.length:=by have:=HN.out;omega
   have hkb:k<b.length:=by have:=HM.out;omega
   obtain ⟨ba,oa,rfl,hba,hca⟩:=(HA.out.below hb).at_ (by rw[List.length_map];omega)
   obtain ⟨bb,ob,rfl,hbb,hcb⟩:=(HB.out.below hb).at_ (by rw[List.length_map];omega)
   have c1:=hca k (.int .i64 a[k]) (by rw[List.getElem?_map,List.getElem?_eq_getElem hka];rfl)
   have c2:=hcb k (.int .i64 b[k]) (by rw[List.getElem?_map,List.getElem?_eq_getElem hkb];rfl)
   obtain ⟨x,hx⟩:∃x,x=a[k]:=⟨_,rfl⟩;obtain ⟨y,hy⟩:∃y,y=b[k]:=⟨_,rfl⟩;rw[←hx] at c1;rw[←hy] at c2;have HX:=Lib.hid (show a[k]?=some x from by rw[List.getElem?_eq_getElem hka,hx])
   have HY:=Lib.hid (show b[k]?=some y from by rw[List.getElem?_eq_getElem hkb,hy])
   have Hb:=Lib.hid hb;clear hca hcb hx hy hb;by_cases hxy:x=y
   ·subst hxy;go_wp2_with fail
    obtain ⟨SC,hSCd⟩:∃S:World→Prop,S=(fun w'=>w'.cell? ⟨ba,oa+k,none⟩=some (.int .i64 x)∧w'.cell? ⟨bb,ob+k,none⟩=some (.int .i64 x)):=⟨_,rfl⟩;have hSC:SC wr.drew:=by rw[hSCd];exact ⟨c1,c2⟩
    have HSC:=Lib.hid (show SC wr.drew from hSC)
    have HSd:=Lib.hid hSCd;clear hSC hSCd;refine region_heldT 9 SC (by kernel_rfl) (by decide) ?_
    refine hwA 0 (.slice (some ⟨ba,oa,none⟩) n cA) HSC.out ?_;simp only[Act.put,List.setIfInBounds_toArray];refine hwA 1 (.int .i64 (k:Int)) HSC.out ?_;simp only[Act.put];refine hwA 2 (.pointer (some ⟨ba,oa+k,none⟩)) HSC.out ?_;simp only[Act.put];refine hwA 3 (.int .i64 x) HSC.out ?_;simp only[Act.put];refine hwA 4 (.slice (some ⟨bb,ob,none⟩) n cB) HSC.out ?_;simp only[Act.put];refine hwA 5 (.int .i64 (k:Int)) HSC.out ?_;simp only[Act.put];refine hwA 6 (.pointer (some ⟨bb,ob+k,none⟩)) HSC.out ?_;simp only[Act.put];refine hwA 7 (.int .i64 x) HSC.out ?_;simp only[Act.put];refine hwA 8 (.bool false) HSC.out ?_;simp only[Act.put];simp only[List.getElem_toArray,List.getElem_cons_succ,List.getElem_cons_zero,List.setIfInBounds_toArray,List.set_cons_succ,List.set_cons_zero];refine fun hInv=>⟨by kernel_rfl,?_⟩
    clear hInv;simp only[List.drop_succ_cons,List.drop_zero];clear HSC HSd;clear SC;go_wp2_with fail
    refine ⟨⟨k+1,by omega,by first|rfl|go_num,Lib.hid (fun j hj=>?_),Hb.out.drew⟩,by simp[intOf];omega⟩
    by_cases e:j=k
    ·subst e;rw[HX.out,HY.out]
    exact hE.out j (by omega)
   have h1:(x==y)=false:=by simp[hxy]
   have h2:(x != y)=true:=by simp[hxy]
   go_wp2_with fail
   obtain ⟨SC,hSCd⟩:∃S:World→Prop,S=(fun w'=>w'.cell? ⟨ba,oa+k,none⟩=some (.int .i64 x)∧w'.cell? ⟨bb,ob+k,none⟩=some (.int .i64 y)):=⟨_,rfl⟩;have hSC:SC wr.drew:=by rw[hSCd];exact ⟨c1,c2⟩
   have HSC:=Lib.hid (show SC wr.drew from hSC)
   have HSd:=Lib.hid hSCd;clear hSC hSCd;refine region_heldT 9 SC (by kernel_rfl) (by decide) ?_
   refine hwA 0 (.slice (some ⟨ba,oa,none⟩) n cA) HSC.out ?_;simp only[Act.put,List.setIfInBounds_toArray];refine hwA 1 (.int .i64 (k:Int)) HSC.out ?_;simp only[Act.put];refine hwA 2 (.pointer (some ⟨ba,oa+k,none⟩)) HSC.out ?_;simp only[Act.put];refine hwA 3 (.int .i64 x) HSC.out ?_;simp only[Act.put];refine hwA 4 (.slice (some ⟨bb,ob,none⟩) n cB) HSC.out ?_;simp only[Act.put];refine hwA 5 (.int .i64 (k:Int)) HSC.out ?_;simp only[Act.put];refine hwA 6 (.pointer (some ⟨bb,ob+k,none⟩)) HSC.out ?_;simp only[Act.put];refine hwA 7 (.int .i64 y) HSC.out ?_;simp only[Act.put];refine hwA 8 (.bool true) HSC.out ?_;simp only[Act.put];simp only[List.getElem_toArray,List.getElem_cons_succ,List.getElem_cons_zero,List.setIfInBounds_toArray,List.set_cons_succ,List.set_cons_zero];refine fun hInv=>⟨by kernel_rfl,?_⟩
   clear hInv;simp only[List.drop_succ_cons,List.drop_zero];clear HSC HSd;clear SC;go_wp2_with fail
   go_ret
   refine ⟨?_,Hb.out.drew⟩
   have e:(a==b)=false:=by
    rw[Bool.eq_false_iff];intro e;have e2:a=b:=by simpa using e
    have:=HX.out;rw[e2,HY.out] at this;injection this with this
    exact hxy this.symm
   rw[HR.out,e];rfl
  obtain rfl:n=k:=by omega
  have Hb:=Lib.hid hb;clear hb;go_wp2_with fail
  go_ret
  refine ⟨?_,Hb.out⟩
  have e:a=b:=by
   apply List.ext_getElem?;intro j;by_cases hj:j<n
   ·exact hE.out j hj
   rw[List.getElem?_eq_none (by have:=HN.out;omega),List.getElem?_eq_none (by have:=HM.out;omega)]
  rw[HR.out,e];simp
 ·go_wp2_with fail
  go_ret
  refine ⟨?_,Below.refl _ _⟩
  have e:(a==b)=false:=by
   rw[Bool.eq_false_iff];intro e;have e2:a=b:=by simpa using e
   have h1:=HN.out;have h2:=HM.out;rw[e2, ←h2] at h1;omega
  rw[HR.out,e];rfl
end
section
open Go.RowKit
structure FactV (w:World) (v:Value) (hs:List (List Int)) (tops:List Int) (lps:List (List Int)) (live:List Bool) (ce co:Int):Prop where
 out:∃(A0 A1 A2 A3:Option Addr) (c0 c1 c2 c3:Nat),v= .agg #[.slice A0 hs.length c0,.slice A1 tops.length c1,.slice A2 lps.length c2,.slice A3 live.length c3,.int .i64 ce,.int .i64 co]∧
  (0<hs.length→HRows w A0 hs)∧RV w A1 (tops.map iv)∧(0<lps.length→HRows w A2 lps)∧RV w A3 (live.map bo)
theorem FactV.below {w w':World} {v:Value} {hs lps:List (List Int)} {tops:List Int} {live:List Bool} {ce co:Int} (h:FactV w v hs tops lps live ce co) (hb:Below w.heap.size w w'):FactV w' v hs tops lps live ce co:=by
 obtain ⟨A0,A1,A2,A3,c0,c1,c2,c3,e,h0,h1,h2,h3⟩:=h.out;exact ⟨A0,A1,A2,A3,c0,c1,c2,c3,e,fun k=>(h0 k).below hb,h1.below hb,fun k=>(h2 k).below hb,h3.below hb⟩
structure LensV (hs lps:List (List Int)) (nh nl:Nat):Prop where
 h:hs.length=nh
 l:lps.length=nl
structure RowsV (w:World) (A10 A20 A12 A22:Option Addr) (hs lps:List (List Int)) (nh nl:Nat):Prop where
 h1:0<nh→HRows w A10 hs
 h2:0<nh→HRows w A20 hs
 l1:0<nl→HRows w A12 lps
 l2:0<nl→HRows w A22 lps
 hm:∀j,(hs.getD j []).length≤maxLen
 lm:∀j,(lps.getD j []).length≤maxLen
set_option maxRecDepth 100000 in
set_option maxHeartbeats 4000000 in
theorem sameFacts_any (v1 v2:Value) (hs:List (List Int)) (tops:List Int) (lps:List (List Int)) (live:List Bool) (ce co:Int) (w:World) (h1:FactV w v1 hs tops lps live ce co) (h2:FactV w v2 hs tops lps live ce co) (hmh:∀j,(hs.getD j []).length≤maxLen) (hml:∀j,(lps.getD j []).length≤maxLen) (hmt:tops.length≤maxLen) (hb0:hs.length≤1000000∧lps.length≤1000000∧live.length≤1000000):
  Calls Try.prog 22 #[v1,v2] w fun e w'=>e= .returned (.bool true)∧Below w.heap.size w w':=by
 obtain ⟨A10,A11,A12,A13,c10,c11,c12,c13,rfl,h10,h11,h12,h13⟩:=h1.out
 obtain ⟨A20,A21,A22,A23,c20,c21,c22,c23,rfl,h20,h21,h22,h23⟩:=h2.out
 obtain ⟨nh,hnh⟩:∃n,n=hs.length:=⟨_,rfl⟩
 obtain ⟨nt,hnt⟩:∃n,n=tops.length:=⟨_,rfl⟩
 obtain ⟨nl,hnl⟩:∃n,n=lps.length:=⟨_,rfl⟩
 obtain ⟨nv,hnv⟩:∃n,n=live.length:=⟨_,rfl⟩
 rw[←hnh, ←hnt, ←hnl, ←hnv]
 rw[←hnh, ←hnl, ←hnv] at hb0
 obtain ⟨hq0,hq1,hq2⟩:=hb0
 obtain ⟨w1,hw1⟩:∃w1,w1=(w.alloc (.cells #[.slice A10 nh c10,.slice A11 nt c11,.slice A12 nl c12,.slice A13 nv c13,.int .i64 ce,.int .i64 co] 32)).alloc (.cells #[.slice A20 nh c20,.slice A21 nt c21,.slice A22 nl c22,.slice A23 nv c23,.int .i64 ce,.int .i64 co] 32):=⟨_,rfl⟩
 obtain ⟨g1,hg1⟩:∃g,g=w.heap.size:=⟨_,rfl⟩
 obtain ⟨g2,hg2⟩:∃g,g=w.heap.size+1:=⟨_,rfl⟩
 have hb1:Below w.heap.size w w1:=by rw[hw1];exact ((Below.refl _ _).alloc (Nat.le_refl _) _).alloc (by simp) _
 have hB1:Blk w1 g1 32 #[.slice A10 nh c10,.slice A11 nt c11,.slice A12 nl c12,.slice A13 nv c13,.int .i64 ce,.int .i64 co]:=by rw[hw1,hg1];exact (Blk.new w _ _).alloc _
 have hB2:Blk w1 g2 32 #[.slice A20 nh c20,.slice A21 nt c21,.slice A22 nl c22,.slice A23 nv c23,.int .i64 ce,.int .i64 co]:=by rw[hw1,hg2];exact Blk.new2 _ _ _ _
 have H1:=Lib.hid hB1
 have H2:=Lib.hid hB2
 have HB1:=Lib.hid hb1
 have HN:=Lib.hid (show LensV hs lps nh nl from ⟨hnh.symm,hnl.symm⟩)
 have HF:=Lib.hid (show RowsV w1 A10 A20 A12 A22 hs lps nh nl from ⟨fun k=>(h10 (by omega)).below hb1,fun k=>(h20 (by omega)).below hb1,fun k=>(h12 (by omega)).below hb1,fun k=>(h22 (by omega)).below hb1,hmh,hml⟩)
 have HV1:=Lib.hid (h13.below hb1)
 have HV2:=Lib.hid (h23.below hb1)
 have Hnv:=Lib.hid hnv
 have Hsi:=Lib.hid (sameInts13_any A11 A21 c11 c21 tops tops w1 (h11.below hb1) (h21.below hb1) hmt)
 rw[show (tops==tops)=true from beq_self_eq_true _, ←hnt] at Hsi
 have Hw1:=Lib.hid hw1
 have Hg1:=Lib.hid hg1
 have Hg2:=Lib.hid hg2
 have k0:w1.cell? ⟨g1,0,none⟩=some (.slice A10 nh c10):=hB1.cell 0
 have k1:w1.cell? ⟨g1,1,none⟩=some (.slice A11 nt c11):=hB1.cell 1
 have k2:w1.cell? ⟨g1,2,none⟩=some (.slice A12 nl c12):=hB1.cell 2
 have k3:w1.cell? ⟨g1,3,none⟩=some (.slice A13 nv c13):=hB1.cell 3
 have kl:=hB1.lt
 have j0:w1.cell? ⟨g2,0,none⟩=some (.slice A20 nh c20):=hB2.cell 0
 have j1:w1.cell? ⟨g2,1,none⟩=some (.slice A21 nt c21):=hB2.cell 1
 have j2:w1.cell? ⟨g2,2,none⟩=some (.slice A22 nl c22):=hB2.cell 2
 have j3:w1.cell? ⟨g2,3,none⟩=some (.slice A23 nv c23):=hB2.cell 3
 have jl:=hB2.lt
 have d1:((nh:Int) != (nh:Int))=false:=by simp
 have d2:((nl:Int) != (nl:Int))=false:=by simp
 have d3:((nv:Int) != (nv:Int))=false:=by simp
 have d4:(ce != ce)=false:=by simp
 have d5:(co != co)=false:=by simp
 clear h1 h2 h10 h11 h12 h13 h20 h21 h22 h23 hnh hnt hnl hnv hb1 hB1 hB2 hw1 hg1 hg2 hmh hml hmt
 go_enter Try.func22,Try.ntmps22
 go_upto_region 1 with (fail)
 rw[←Hw1.out, ←Hg2.out, ←Hg1.out]
 go_wp2_with fail
 refine Hsi.out.mono ?_
 rintro e w2 ⟨rfl,hb2⟩
 have HB2:=Lib.hid hb2
 have h1q:=H1.out.below hb2 H1.out.lt
 have h2q:=H2.out.below hb2 H2.out.lt
 have q4:w2.cell? ⟨g1,4,none⟩=some (.int .i64 ce):=h1q.cell 4
 have q5:w2.cell? ⟨g1,5,none⟩=some (.int .i64 co):=h1q.cell 5
 have q6:w2.cell? ⟨g2,4,none⟩=some (.int .i64 ce):=h2q.cell 4
 have q7:w2.cell? ⟨g2,5,none⟩=some (.int .i64 co):=h2q.cell 5
 have q8:=h1q.lt
 have q9:=h2q.lt
 clear hb2 h1q h2q k0 k1 k2 k3 kl j0 j1 j2 j3 jl Hsi
 go_wp2_with fail
 go_loopw [5] (fun i wr=>∃j:Nat,j≤nh∧i= .int .i64 (j:Int)∧Below w1.heap.size w1 wr) (fun i _=>nh-(intOf i).toNat)
 case atStart=>exact ⟨0,Nat.zero_le _,rfl,HB2.out⟩
 case round=>
 rename World=>wr
 obtain ⟨j,hj,rfl,hB⟩:=hrel
 have HB:=Lib.hid hB
 have h1r:=H1.out.below hB H1.out.lt
 have h2r:=H2.out.below hB H2.out.lt
 have u0:wr.cell? ⟨g1,0,none⟩=some (.slice A10 nh c10):=h1r.cell 0
 have ul:=h1r.lt
 by_cases hlt:j<nh
 ·as_aux_lemma=>
  have g0:(j:Int)<(nh:Int):=by omega
  obtain ⟨b1,e1,hb1,hr1⟩:=(HF.out.h1 (by omega)).below hB
  obtain ⟨b2,e2,hb2,hr2⟩:=(HF.out.h2 (by omega)).below hB
  subst e1 e2;obtain ⟨R1,r1,u1,k1⟩:=hr1 j (by rw[HN.out.h];exact hlt)
  obtain ⟨R2,r2,u3,k2⟩:=hr2 j (by rw[HN.out.h];exact hlt)
  have u2:wr.cell? ⟨g2,0,none⟩=some (.slice (some ⟨b2,0,none⟩) nh c20):=h2r.cell 0;have u2l:=h2r.lt;have hml:=HF.out.hm j;have Hsi:=Lib.hid (sameInts13_any R1 R2 r1 r2 (hs.getD j []) (hs.getD j []) wr.drew (k1.below (Below.refl _ wr).drew) (k2.below (Below.refl _ wr).drew) hml);rw[show (hs.getD j []==hs.getD j [])=true from beq_self_eq_true _] at Hsi
  obtain ⟨m,hm⟩:∃m,m=(hs.getD j []).length:=⟨_,rfl⟩;rw[←hm] at Hsi u1 u3;have u1l:=hb1;have u3l:=hb2;clear hB h1r h2r hr1 hr2 k1 k2 hm hml hb1 hb2;go_upto_region 6 with (fail)
  obtain ⟨SC,hSCd⟩:∃S:World→Prop,S=fun w'=>(w'.cell? ⟨g1,0,none⟩=some (.slice (some ⟨b1,0,none⟩) nh c10)∧g1<w'.heap.size)∧(w'.cell? ⟨b1,j,none⟩=some (.slice R1 m r1)∧b1<w'.heap.size)∧(w'.cell? ⟨g2,0,none⟩=some (.slice (some ⟨b2,0,none⟩) nh c20)∧g2<w'.heap.size)∧(w'.cell? ⟨b2,j,none⟩=some (.slice R2 m r2)∧b2<w'.heap.size):=⟨_,rfl⟩;have hSC:SC wr.drew:=by rw[hSCd];exact ⟨⟨u0,ul⟩,⟨u1,u1l⟩,⟨u2,u2l⟩,⟨u3,u3l⟩⟩
  have HSC:=Lib.hid (show SC wr.drew from hSC)
  have HSd:=Lib.hid hSCd;clear hSC hSCd;refine region_heldT 10 SC (by kernel_rfl) (by decide) ?_
  refine hwK 0 (.pointer (some ⟨g1,0,none⟩)) HSC.out ?_;simp only[Act.put,List.setIfInBounds_toArray];refine hwK 1 (.slice (some ⟨b1,0,none⟩) nh c10) HSC.out ?_;simp only[Act.put];refine hwK 2 (.int .i64 (j:Int)) HSC.out ?_;simp only[Act.put];try simp only[List.getElem_toArray,List.getElem_cons_succ,List.getElem_cons_zero,List.setIfInBounds_toArray,List.set_cons_succ,List.set_cons_zero]
  refine hwK 3 (.pointer (some ⟨b1,j,none⟩)) HSC.out ?_;simp only[Act.put];refine hwK 4 (.slice R1 m r1) HSC.out ?_;simp only[Act.put];refine hwK 5 (.pointer (some ⟨g2,0,none⟩)) HSC.out ?_;simp only[Act.put];try simp only[List.getElem_toArray,List.getElem_cons_succ,List.getElem_cons_zero,List.setIfInBounds_toArray,List.set_cons_succ,List.set_cons_zero]
  refine hwK 6 (.slice (some ⟨b2,0,none⟩) nh c20) HSC.out ?_;simp only[Act.put];refine hwK 7 (.int .i64 (j:Int)) HSC.out ?_;simp only[Act.put];refine hwK 8 (.pointer (some ⟨b2,j,none⟩)) HSC.out ?_;simp only[Act.put];try simp only[List.getElem_toArray,List.getElem_cons_succ,List.getElem_cons_zero,List.setIfInBounds_toArray,List.set_cons_succ,List.set_cons_zero]
  refine hwK 9 (.slice R2 m r2) HSC.out ?_;simp only[Act.put];try simp only[List.getElem_toArray,List.getElem_cons_succ,List.getElem_cons_zero,List.setIfInBounds_toArray,List.set_cons_succ,List.set_cons_zero]
  refine fun hInv=>⟨by kernel_rfl,?_⟩
  clear hInv;simp only[List.drop_succ_cons,List.drop_zero];clear HSC HSd;clear SC;go_wp2_with fail
  refine Hsi.out.mono ?_;rintro e w2 ⟨rfl,hb2⟩;have HB2:=Lib.hid (HB.out.trans ((((Below.refl _ wr).drew).trans hb2).mono HB.out.size));clear hb2 u0 ul u1 u1l u2 u2l u3 u3l Hsi;go_wp2_with fail
  exact ⟨⟨j+1,by omega,by go_num,HB2.out⟩,by simp[intOf];omega⟩
 obtain rfl:j=nh:=by omega
 clear h1r h2r hB
 go_wp2_with fail
 go_loopw [6] (fun i wr=>∃j:Nat,j≤nl∧i= .int .i64 (j:Int)∧Below w1.heap.size w1 wr) (fun i _=>nl-(intOf i).toNat)
 case atStart=>exact ⟨0,Nat.zero_le _,rfl,HB.out⟩
 case round=>
 clear HB
 rename World=>wr
 obtain ⟨j,hj,rfl,hB⟩:=hrel
 have HB:=Lib.hid hB
 have h1r:=H1.out.below hB H1.out.lt
 have h2r:=H2.out.below hB H2.out.lt
 have u0:wr.cell? ⟨g1,2,none⟩=some (.slice A12 nl c12):=h1r.cell 2
 have ul:=h1r.lt
 by_cases hlt:j<nl
 ·as_aux_lemma=>
  have g0:(j:Int)<(nl:Int):=by omega
  obtain ⟨b1,e1,hb1,hr1⟩:=(HF.out.l1 (by omega)).below hB
  obtain ⟨b2,e2,hb2,hr2⟩:=(HF.out.l2 (by omega)).below hB
  subst e1 e2;obtain ⟨R1,r1,u1,k1⟩:=hr1 j (by rw[HN.out.l];exact hlt)
  obtain ⟨R2,r2,u3,k2⟩:=hr2 j (by rw[HN.out.l];exact hlt)
  have u2:wr.cell? ⟨g2,2,none⟩=some (.slice (some ⟨b2,0,none⟩) nl c22):=h2r.cell 2;have u2l:=h2r.lt;have hml:=HF.out.lm j;have Hsi:=Lib.hid (sameInts13_any R1 R2 r1 r2 (lps.getD j []) (lps.getD j []) wr.drew (k1.below (Below.refl _ wr).drew) (k2.below (Below.refl _ wr).drew) hml);rw[show (lps.getD j []==lps.getD j [])=true from beq_self_eq_true _] at Hsi
  obtain ⟨m,hm⟩:∃m,m=(lps.getD j []).length:=⟨_,rfl⟩;rw[←hm] at Hsi u1 u3;have u1l:=hb1;have u3l:=hb2;clear hB h1r h2r hr1 hr2 k1 k2 hm hml hb1 hb2;go_upto_region 11 with (fail)
  obtain ⟨SC,hSCd⟩:∃S:World→Prop,S=fun w'=>(w'.cell? ⟨g1,2,none⟩=some (.slice (some ⟨b1,0,none⟩) nl c12)∧g1<w'.heap.size)∧(w'.cell? ⟨b1,j,none⟩=some (.slice R1 m r1)∧b1<w'.heap.size)∧(w'.cell? ⟨g2,2,none⟩=some (.slice (some ⟨b2,0,none⟩) nl c22)∧g2<w'.heap.size)∧(w'.cell? ⟨b2,j,none⟩=some (.slice R2 m r2)∧b2<w'.heap.size):=⟨_,rfl⟩;have hSC:SC wr.drew:=by rw[hSCd];exact ⟨⟨u0,ul⟩,⟨u1,u1l⟩,⟨u2,u2l⟩,⟨u3,u3l⟩⟩
  have HSC:=Lib.hid (show SC wr.drew from hSC)
  have HSd:=Lib.hid hSCd;clear hSC hSCd;refine region_heldT 10 SC (by kernel_rfl) (by decide) ?_
  refine hwK 0 (.pointer (some ⟨g1,2,none⟩)) HSC.out ?_;simp only[Act.put,List.setIfInBounds_toArray];refine hwK 1 (.slice (some ⟨b1,0,none⟩) nl c12) HSC.out ?_;simp only[Act.put];refine hwK 2 (.int .i64 (j:Int)) HSC.out ?_;simp only[Act.put];try simp only[List.getElem_toArray,List.getElem_cons_succ,List.getElem_cons_zero,List.setIfInBounds_toArray,List.set_cons_succ,List.set_cons_zero]
  refine hwK 3 (.pointer (some ⟨b1,j,none⟩)) HSC.out ?_;simp only[Act.put];refine hwK 4 (.slice R1 m r1) HSC.out ?_;simp only[Act.put];refine hwK 5 (.pointer (some ⟨g2,2,none⟩)) HSC.out ?_;simp only[Act.put];try simp only[List.getElem_toArray,List.getElem_cons_succ,List.getElem_cons_zero,List.setIfInBounds_toArray,List.set_cons_succ,List.set_cons_zero]
  refine hwK 6 (.slice (some ⟨b2,0,none⟩) nl c22) HSC.out ?_;simp only[Act.put];refine hwK 7 (.int .i64 (j:Int)) HSC.out ?_;simp only[Act.put];refine hwK 8 (.pointer (some ⟨b2,j,none⟩)) HSC.out ?_;simp only[Act.put];try simp only[List.getElem_toArray,List.getElem_cons_succ,List.getElem_cons_zero,List.setIfInBounds_toArray,List.set_cons_succ,List.set_cons_zero]
  refine hwK 9 (.slice R2 m r2) HSC.out ?_;simp only[Act.put];try simp only[List.getElem_toArray,List.getElem_cons_succ,List.getElem_cons_zero,List.setIfInBounds_toArray,List.set_cons_succ,List.set_cons_zero]
  refine fun hInv=>⟨by kernel_rfl,?_⟩
  clear hInv;simp only[List.drop_succ_cons,List.drop_zero];clear HSC HSd;clear SC;go_wp2_with fail
  refine Hsi.out.mono ?_;rintro e w2 ⟨rfl,hb2⟩;have HB2:=Lib.hid (HB.out.trans ((((Below.refl _ wr).drew).trans hb2).mono HB.out.size));clear hb2 u0 ul u1 u1l u2 u2l u3 u3l Hsi;go_wp2_with fail
  exact ⟨⟨j+1,by omega,by go_num,HB2.out⟩,by simp[intOf];omega⟩
 obtain rfl:j=nl:=by omega
 clear h1r h2r hB
 go_wp2_with fail
 go_loopw [7] (fun i wz=>∃j:Nat,j≤nv∧i= .int .i64 (j:Int)∧Below w1.heap.size w1 wz) (fun i _=>nv-(intOf i).toNat)
 case atStart=>exact ⟨0,Nat.zero_le _,rfl,HB.out⟩
 case round=>
 rename World=>wz
 obtain ⟨j,hj,rfl,hBz⟩:=hrel
 have HBz:=Lib.hid hBz
 have h1r:=H1.out.below hBz H1.out.lt
 have h2r:=H2.out.below hBz H2.out.lt
 have u0:wz.cell? ⟨g1,3,none⟩=some (.slice A13 nv c13):=h1r.cell 3
 have ul:=h1r.lt
 by_cases hlt:j<nv
 ·as_aux_lemma=>
  have g0:(j:Int)<(nv:Int):=by omega
  obtain ⟨b1,o1,e1,hb1,hc1⟩:=(HV1.out.below hBz).at_ (by rw[List.length_map, ←Hnv.out];omega)
  obtain ⟨b2,o2,e2,hb2,hc2⟩:=(HV2.out.below hBz).at_ (by rw[List.length_map, ←Hnv.out];omega)
  subst e1 e2;obtain ⟨x,hx⟩:∃x,live[j]?=some x:=⟨_,List.getElem?_eq_getElem (by rw[←Hnv.out];exact hlt)⟩
  have u1:wz.cell? ⟨b1,o1+j,none⟩=some (.bool x):=hc1 j _ (by rw[List.getElem?_map,hx];rfl)
  have u3:wz.cell? ⟨b2,o2+j,none⟩=some (.bool x):=hc2 j _ (by rw[List.getElem?_map,hx];rfl)
  have u2:wz.cell? ⟨g2,3,none⟩=some (.slice (some ⟨b2,o2,none⟩) nv c23):=h2r.cell 3;have u2l:=h2r.lt;have dx:(x != x)=false:=by simp
  clear hBz h1r h2r hc1 hc2 hx;go_wp2_with fail
  go_quiet (fail)
  go_wp2_with fail
  exact ⟨⟨j+1,by omega,by go_num,below_drewN HBz.out _⟩,by simp[intOf];omega⟩
 obtain rfl:j=nv:=by omega
 clear h1r h2r hBz
 go_wp2_with fail
 go_ret
 exact ⟨rfl,HB1.out.trans (HBz.out.mono HB1.out.size)⟩
end
end Go.Proofs.Ytcmpmhlcfalbhaa
