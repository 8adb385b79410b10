import Derived.Test.YtcmpmhlcfalbhaaV08
import Derived.Test.YtcmpmhlcfalbhaaV11
namespace Go.Proofs.Ytcmpmhlcfalbhaa
section
open Go.RowKit
structure SoleG (w:World) (B:Nat) (e:TypeId) (sz:Nat) (qs:List (LG×List Value)):Prop where
 own:∀q∈qs,Own w B e sz q.1.A q.1.n q.1.c q.2
 sole:∀(i j:Nat) (p r:LG×List Value),qs[i]?=some p→qs[j]?=some r→i≠j→∀b,p.1.A.map (·.block)=some b→r.1.A.map (·.block)≠some b
theorem SoleG.nil (w:World) (B:Nat) (e:TypeId) (sz:Nat):SoleG w B e sz []:=⟨(fun f h=>by cases h),(fun i j f g h=>by cases h)⟩
theorem SoleG.only {S:Nat→Prop} {w w':World} {B:Nat} {e:TypeId} {sz:Nat} {qs:List (LG×List Value)} (h:SoleG w B e sz qs) (ho:Only S w w') (hS:∀q∈qs,∀b,q.1.A.map (·.block)=some b→¬ S b):SoleG w' B e sz qs:=
 ⟨fun q hq=>Own.only (h.own q hq) ho fun b o e=>hS q hq b (by rw[e];rfl),h.sole⟩
theorem SoleG.below {w w':World} {B:Nat} {e:TypeId} {sz:Nat} {qs:List (LG×List Value)} (h:SoleG w B e sz qs) (hb:Below w.heap.size w w'):SoleG w' B e sz qs:=h.only (S:=fun _=>False) (Only.of_fresh hb) fun _ _ _ _ h=>h
theorem SoleG.lt {w:World} {B:Nat} {e:TypeId} {sz:Nat} {qs:List (LG×List Value)} (h:SoleG w B e sz qs):∀q∈qs,∀b,q.1.A.map (·.block)=some b→B≤b∧b<w.heap.size:=fun q hq b e=>Own.row (h.own q hq) b e
theorem SoleG.push {w:World} {B B2:Nat} {e:TypeId} {sz:Nat} {qs:List (LG×List Value)} (h:SoleG w B e sz qs) {x:LG×List Value} (hx:Own w B2 e sz x.1.A x.1.n x.1.c x.2) (hb:B≤B2) (hlt:∀q∈qs,∀b,q.1.A.map (·.block)=some b→b<B2):SoleG w B e sz (qs++[x]):=by
 have hxb:∀b,x.1.A.map (·.block)=some b→B2≤b:=fun b e=>(Own.row hx b e).1;refine ⟨fun f hf=>?_,fun i j f g hi hj hij b hb1 hb2=>?_⟩
 ·rw[List.mem_append,List.mem_singleton] at hf;rcases hf with hf|rfl
  ·exact h.own f hf
  exact hx.mono hb
 have key:∀(k:Nat) (y:LG×List Value),(qs++[x])[k]?=some y→qs[k]?=some y∨(k=qs.length∧y=x):=by
  intro k y hk;by_cases h1:k<qs.length
  ·rw[List.getElem?_append_left h1] at hk;exact .inl hk
  rw[List.getElem?_append_right (by omega)] at hk
  obtain h2|h2:k-qs.length=0∨0<k-qs.length:=by omega
  ·rw[h2] at hk;injection hk with hk
   exact .inr ⟨by omega,hk.symm⟩
  rw[List.getElem?_eq_none (by rw[List.length_singleton];exact h2)] at hk
  cases hk
 rcases key i f hi with h1|⟨h1,rfl⟩
 ·rcases key j g hj with h2|⟨h2,rfl⟩
  ·exact h.sole i j f g h1 h2 hij b hb1 hb2
  have:=hlt f (List.mem_of_getElem? h1) b hb1;have:=hxb b hb2;omega
 rcases key j g hj with h2|⟨h2,rfl⟩
 ·have:=hlt g (List.mem_of_getElem? h2) b hb2;have:=hxb b hb1;omega
 omega
def hdrs (qs:List (LG×List Value)):List Value:=qs.map fun q=>LG.val q.1
theorem hdrs_len (qs:List (LG×List Value)):(hdrs qs).length=qs.length:=by unfold hdrs;rw[List.length_map]
end
section
open Go.RowKit
set_option maxRecDepth 100000 in
set_option maxHeartbeats 4000000 in
theorem operands13_any (p:PrgM) (w:World) (h:PrgAt w p):Calls Try.prog 37 #[p.val] w fun e w'=>e= .returned (faultV (firstP p.plain p.plain.fs 0))∧Below w.heap.size w w':=by
 obtain ⟨R,hR⟩:∃R,R=firstP p.plain p.plain.fs 0:=⟨_,rfl⟩;rw[←hR];have hfl:p.fs.length≤2932031007402:=h.flen;obtain ⟨AF,hAF⟩:∃A,A=p.AF:=⟨_,rfl⟩;show Calls Try.prog _ #[.agg #[.int .i64 p.mem,.slice p.AD p.data.length p.cD,.slice p.AF p.fs.length p.cF]] w _
 rw[←hAF];have HAF:=Lib.hid hAF;clear hAF;have HR:=Lib.hid (show R=firstP p.plain ((p.fs.drop 0).map FunM.plain) 0 from hR)
 obtain ⟨w1,hw1⟩:∃w1,w1=(w.alloc (.cells #[.int .i64 p.mem,.slice p.AD p.data.length p.cD,.slice AF p.fs.length p.cF] 26)).alloc (.cells #[.int .i64 0,.int .i64 0,.int .i64 0] 37):=⟨_,rfl⟩;have hb1:Below w.heap.size w w1:=by rw[hw1];exact ((Below.refl _ _).alloc (Nat.le_refl _) _).alloc (by simp) _
 have hX1:Blk w1 w.heap.size 26 #[.int .i64 p.mem,.slice p.AD p.data.length p.cD,.slice AF p.fs.length p.cF]:=by rw[hw1];exact (Blk.new w _ _).alloc _
 have hE1:Blk w1 (w.heap.size+1) 37 #[.int .i64 0,.int .i64 0,.int .i64 0]:=by
  rw[hw1];have h:=Blk.new (w.alloc (.cells #[.int .i64 p.mem,.slice p.AD p.data.length p.cD,.slice AF p.fs.length p.cF] 26)) 37 #[.int .i64 0,.int .i64 0,.int .i64 0];rw[World.size_alloc] at h;exact h
 obtain ⟨gx,hgx⟩:∃g,g=w.heap.size:=⟨_,rfl⟩;obtain ⟨ge,hge⟩:∃g,g=w.heap.size+1:=⟨_,rfl⟩;rw[←hgx] at hX1 hge;rw[hgx] at hge;rw[←hge] at hE1;rw[←hgx] at hge;have hgb:w.heap.size≤ge:=by omega
 have hgxl:=hX1.lt;have hgel:=hE1.lt;have HX:=Lib.hid hX1;have HE:=Lib.hid hE1;have Hw1:=Lib.hid hw1;have Hb1:=Lib.hid hb1;have HP:=Lib.hid (h.below hb1);have Hgx:=Lib.hid hgx;have Hge:=Lib.hid hge;have x2:w1.cell? ⟨gx,2,none⟩=some (.slice AF p.fs.length p.cF):=hX1.cell 2;have xl:=hX1.lt;clear h hw1 hb1 hX1 hE1 hgx hge hR;go_enter Try.func37,Try.ntmps37
 go_wp2_with (refine wpList_at 9 rfl ?_;refine wp_stop ?_)
 try refine ⟨?_⟩
 rw[←Hw1.out, ←Hgx.out, ←Hge.out];go_wp2_with fail
 clear x2 xl;go_loopw [11] (fun i wr=>∃k:Nat,k≤p.fs.length∧i= .int .i64 k∧Hid (R=firstP p.plain ((p.fs.drop k).map FunM.plain) k)∧Below w1.heap.size w1 wr) (fun i _=>p.fs.length-(intOf i).toNat)
 case atStart=>exact ⟨0,Nat.zero_le _,rfl,HR,Below.refl _ _⟩
 rename World=>w2;clear HR;obtain ⟨k,hk,rfl,HR,hB⟩:=hrel;have HX2:=Lib.hid (HX.out.below hB HX.out.lt);have HE2:=Lib.hid (HE.out.below hB HE.out.lt);have HP2:=Lib.hid (HP.out.below hB);have hz2:=hB.size;have HB2:=Lib.hid (Hb1.out.trans (hB.mono Hb1.out.size));have HB12:=Lib.hid hB;clear hB;have x2:w2.cell? ⟨gx,2,none⟩=some (.slice AF p.fs.length p.cF):=HX2.out.cell 2;have xl:=HX2.out.lt;have e0:w2.cell? ⟨ge,0,none⟩=some (.int .i64 0):=HE2.out.cell 0;have ef0:w2.frozen? ⟨ge,0,none⟩=false:=HE2.out.frozen 0;have e1:w2.cell? ⟨ge,1,none⟩=some (.int .i64 0):=HE2.out.cell 1;have ef1:w2.frozen? ⟨ge,1,none⟩=false:=HE2.out.frozen 1;have e2:w2.cell? ⟨ge,2,none⟩=some (.int .i64 0):=HE2.out.cell 2;have ef2:w2.frozen? ⟨ge,2,none⟩=false:=HE2.out.frozen 2;have el:=HE2.out.lt;by_cases hlt:k<p.fs.length
 ·have g1:(k:Int)<(p.fs.length:Int):=by omega
  obtain ⟨g,hg⟩:∃g,p.fs[k]?=some g:=⟨_,List.getElem?_eq_getElem hlt⟩;obtain ⟨b,off,hA,hb,q0,q1,q2,q3,hF,hFl⟩:=HP2.out.fn hg;have hdr:p.fs.drop k=g::p.fs.drop (k+1):=by rw[List.drop_eq_getElem_cons hlt];congr 1;exact (List.getElem?_eq_some_iff.1 hg).2
  have HR2:=Lib.hid (show R=joinF (firstI (badOp p.plain g.plain) (g.code.drop 0) 0) k (firstP p.plain ((p.fs.drop (k+1)).map FunM.plain) (k+1)) from by rw[HR.out,hdr];rfl)
  have hcl:=hF.len;have hpl:p.plain.fs.length=p.fs.length:=by unfold PrgM.plain;rw[List.length_map]
  have Hpl:=Lib.hid hpl;rw[←HAF.out] at hA;subst hA;have HF:=Lib.hid hF;clear HR hdr hg hF hpl;obtain ⟨ga,gl,gr,gA,gc,gcode⟩:=g;dsimp only at q0 q1 q2 q3 hcl;obtain ⟨w3,hw3⟩:∃w3,w3=w2.alloc (.cells #[.int .i64 ga,.int .i64 gl,.int .i64 gr,.slice gA gcode.length gc] 43):=⟨_,rfl⟩;have hb23:Below w2.heap.size w2 w3:=by rw[hw3];exact (Below.refl _ _).alloc (Nat.le_refl _) _
  obtain ⟨gf,hgf⟩:∃g,g=w2.heap.size:=⟨_,rfl⟩;have hF3:Blk w3 gf 43 #[.int .i64 ga,.int .i64 gl,.int .i64 gr,.slice gA gcode.length gc]:=by rw[hw3,hgf];exact Blk.new _ _ _
  have HF3:=Lib.hid hF3;have HX3:=Lib.hid (HX2.out.below hb23 HX2.out.lt);have HE3:=Lib.hid (HE2.out.below hb23 HE2.out.lt);have HFn3:=Lib.hid (HF.out.below hb23);have HB3:=Lib.hid (HB2.out.trans (hb23.mono HB2.out.size));have HB13:=Lib.hid (HB12.out.trans (hb23.mono HB12.out.size));have hz3:=hb23.size;have Hw3:=Lib.hid hw3;have Hgf:=Lib.hid hgf;clear hw3 hgf hb23 hF3 HX2 HE2 HP2 HF HB2 HB12;go_wp2_with (refine wpList_at 16 rfl ?_;refine wp_stop ?_)
  try refine ⟨?_⟩
  rw[←Hw3.out, ←Hgf.out];have fx3:w3.cell? ⟨gf,3,none⟩=some (.slice gA gcode.length gc):=HF3.out.cell 3;have fxl:=HF3.out.lt;clear x2 xl e0 ef0 e1 ef1 e2 ef2 el q0 q1 q2 q3;go_wp2_with fail
  clear fx3 fxl;go_loopw [19] (fun i wr=>∃j:Nat,j≤gcode.length∧i= .int .i64 j∧Hid (R=joinF (firstI (badOp p.plain (FunM.plain ⟨ga,gl,gr,gA,gc,gcode⟩)) (gcode.drop j) j) k (firstP p.plain ((p.fs.drop (k+1)).map FunM.plain) (k+1)))∧Below w3.heap.size w3 wr) (fun i _=>gcode.length-(intOf i).toNat)
  case atStart=>exact ⟨0,Nat.zero_le _,rfl,HR2,Below.refl _ _⟩
  rename World=>w4;clear HR2;obtain ⟨j,hj,rfl,HR,hB⟩:=hrel;have HX4:=Lib.hid (HX3.out.below hB HX3.out.lt);have HE4:=Lib.hid (HE3.out.below hB HE3.out.lt);have HFn4:=Lib.hid (HFn3.out.below hB);have HF4:=Lib.hid (HF3.out.below hB HF3.out.lt);have HB4:=Lib.hid (HB3.out.trans (hB.mono HB3.out.size));have HB14:=Lib.hid (HB13.out.trans (hB.mono HB13.out.size));have HB34:=Lib.hid hB;have hz4:=hB.size;clear hB;by_cases hlt2:j<gcode.length
  ·have g2:(j:Int)<(gcode.length:Int):=by omega
   obtain ⟨i,hi⟩:∃i,gcode[j]?=some i:=⟨_,List.getElem?_eq_getElem hlt2⟩;obtain ⟨b2,off2,hA,hb2,r0,r1,hio,hjl⟩:=HFn4.out.ins hi;dsimp only at hA;subst hA;have hdr:gcode.drop j=i::gcode.drop (j+1):=by rw[List.drop_eq_getElem_cons hlt2];congr 1;exact (List.getElem?_eq_some_iff.1 hi).2
   have hbc:=badOp_cases p.plain (FunM.plain ⟨ga,gl,gr,some ⟨b2,off2,none⟩,gc,gcode⟩) i;have hR2:=HR.out;rw[hdr] at hR2;unfold firstI at hR2;generalize badOp p.plain (FunM.plain ⟨ga,gl,gr,some ⟨b2,off2,none⟩,gc,gcode⟩) i=E at*
   have HR2:=Lib.hid hR2;rw[Hpl.out,show (FunM.plain ⟨ga,gl,gr,some ⟨b2,off2,none⟩,gc,gcode⟩).code.length=gcode.length from rfl,show (FunM.plain ⟨ga,gl,gr,some ⟨b2,off2,none⟩,gc,gcode⟩).locals=gl from rfl] at hbc
   clear HR hR2 hdr hi hio;obtain ⟨op,a⟩:=i;dsimp only at r0 r1 hbc;obtain ⟨w5,hw5⟩:∃w5,w5=w4.alloc (.cells #[.int .i64 op,.int .i64 a] 45):=⟨_,rfl⟩;have hb45:Below w4.heap.size w4 w5:=by rw[hw5];exact (Below.refl _ _).alloc (Nat.le_refl _) _
   obtain ⟨gi,hgi⟩:∃g,g=w4.heap.size:=⟨_,rfl⟩;have hI5:Blk w5 gi 45 #[.int .i64 op,.int .i64 a]:=by rw[hw5,hgi];exact Blk.new _ _ _
   have HI5:=Lib.hid hI5;have HX5:=Lib.hid (HX4.out.below hb45 HX4.out.lt);have HE5:=Lib.hid (HE4.out.below hb45 HE4.out.lt);have HF5:=Lib.hid (HF4.out.below hb45 HF4.out.lt);have HB5:=Lib.hid (HB4.out.trans (hb45.mono HB4.out.size));have HB35:=Lib.hid (HB34.out.trans (hb45.mono HB34.out.size));have Hw5:=Lib.hid hw5;have Hgi:=Lib.hid hgi;clear hw5 hgi hb45 hI5 HX4 HE4 HFn4 HF4 HB4 HB34 HB14;go_wp2_with (refine wpList_at 24 rfl ?_;refine wp_stop ?_)
   try refine ⟨?_⟩
   rw[←Hw5.out, ←Hgi.out];clear r0 r1;have x2:w5.cell? ⟨gx,2,none⟩=some (.slice (some ⟨b,off,none⟩) p.fs.length p.cF):=HX5.out.cell 2;have xl:=HX5.out.lt;have e0:w5.cell? ⟨ge,0,none⟩=some (.int .i64 0):=HE5.out.cell 0;have ef0:w5.frozen? ⟨ge,0,none⟩=false:=HE5.out.frozen 0;have e1:w5.cell? ⟨ge,1,none⟩=some (.int .i64 0):=HE5.out.cell 1;have ef1:w5.frozen? ⟨ge,1,none⟩=false:=HE5.out.frozen 1;have e2:w5.cell? ⟨ge,2,none⟩=some (.int .i64 0):=HE5.out.cell 2;have ef2:w5.frozen? ⟨ge,2,none⟩=false:=HE5.out.frozen 2;have el:=HE5.out.lt;have f1:w5.cell? ⟨gf,1,none⟩=some (.int .i64 gl):=HF5.out.cell 1;have f3:w5.cell? ⟨gf,3,none⟩=some (.slice (some ⟨b2,off2,none⟩) gcode.length gc):=HF5.out.cell 3;have fl:=HF5.out.lt;have i0:w5.cell? ⟨gi,0,none⟩=some (.int .i64 op):=HI5.out.cell 0;have i1:w5.cell? ⟨gi,1,none⟩=some (.int .i64 a):=HI5.out.cell 1;have il:=HI5.out.lt;rcases hbc with ⟨hop,hbad,hE⟩|⟨hop,hbad,hE⟩|⟨hop,hbad,hE⟩|⟨hop,hbad,hE⟩|⟨hop,hbad,hE⟩|⟨hop,hbad,hE⟩|⟨o1,o2,o3,o4,o5,o6,hE⟩
   ·rcases hop with rfl|rfl|rfl
    all_goals
     have HR3:=Lib.hid (show R=some (131,(k:Int),(j:Int)) from by rw[HR2.out,hE,if_neg (by decide)];rfl)
     go_wp2_with fail
     refine bodyPost_ret (v:=.agg #[.int .i64 131,.int .i64 (k:Int),.int .i64 (j:Int)]) ?_ rfl ⟨by rw[HR3.out];rfl,((HB5.out.setCell hgb _).setCell hgb _).setCell hgb _⟩
     simp[results,Try.results37,go_sem,e0,e1,e2]
   ·rcases hop with rfl|rfl|rfl
    all_goals
     have HR3:=Lib.hid (show R=joinF (firstI (badOp p.plain (FunM.plain ⟨ga,gl,gr,some ⟨b2,off2,none⟩,gc,gcode⟩)) (gcode.drop (j+1)) (j+1)) k (firstP p.plain ((p.fs.drop (k+1)).map FunM.plain) (k+1)) from by rw[HR2.out,hE,if_pos rfl])
     go_wp2_with fail
     exact ⟨⟨j+1,by omega,by go_num,HR3,HB35.out⟩,by simp[intOf];omega⟩
   ·rcases hop with rfl|rfl
    all_goals
     have HR3:=Lib.hid (show R=some (132,(k:Int),(j:Int)) from by rw[HR2.out,hE,if_neg (by decide)];rfl)
     go_wp2_with fail
     refine bodyPost_ret (v:=.agg #[.int .i64 132,.int .i64 (k:Int),.int .i64 (j:Int)]) ?_ rfl ⟨by rw[HR3.out];rfl,((HB5.out.setCell hgb _).setCell hgb _).setCell hgb _⟩
     simp[results,Try.results37,go_sem,e0,e1,e2]
   ·rcases hop with rfl|rfl
    all_goals
     have HR3:=Lib.hid (show R=joinF (firstI (badOp p.plain (FunM.plain ⟨ga,gl,gr,some ⟨b2,off2,none⟩,gc,gcode⟩)) (gcode.drop (j+1)) (j+1)) k (firstP p.plain ((p.fs.drop (k+1)).map FunM.plain) (k+1)) from by rw[HR2.out,hE,if_pos rfl])
     go_wp2_with fail
     exact ⟨⟨j+1,by omega,by go_num,HR3,HB35.out⟩,by simp[intOf];omega⟩
   ·subst hop
    all_goals
     have HR3:=Lib.hid (show R=some (133,(k:Int),(j:Int)) from by rw[HR2.out,hE,if_neg (by decide)];rfl)
     go_wp2_with fail
     refine bodyPost_ret (v:=.agg #[.int .i64 133,.int .i64 (k:Int),.int .i64 (j:Int)]) ?_ rfl ⟨by rw[HR3.out];rfl,((HB5.out.setCell hgb _).setCell hgb _).setCell hgb _⟩
     simp[results,Try.results37,go_sem,e0,e1,e2]
   ·subst hop
    all_goals
     have HR3:=Lib.hid (show R=joinF (firstI (badOp p.plain (FunM.plain ⟨ga,gl,gr,some ⟨b2,off2,none⟩,gc,gcode⟩)) (gcode.drop (j+1)) (j+1)) k (firstP p.plain ((p.fs.drop (k+1)).map FunM.plain) (k+1)) from by rw[HR2.out,hE,if_pos rfl])
     go_wp2_with fail
     exact ⟨⟨j+1,by omega,by go_num,HR3,HB35.out⟩,by simp[intOf];omega⟩
   have HR3:=Lib.hid (show R=joinF (firstI (badOp p.plain (FunM.plain ⟨ga,gl,gr,some ⟨b2,off2,none⟩,gc,gcode⟩)) (gcode.drop (j+1)) (j+1)) k (firstP p.plain ((p.fs.drop (k+1)).map FunM.plain) (k+1)) from by rw[HR2.out,hE,if_pos rfl])
   go_wp2_with fail
   exact ⟨⟨j+1,by omega,by go_num,HR3,HB35.out⟩,by simp[intOf];omega⟩
  obtain rfl:j=gcode.length:=by omega
  have HR3:=Lib.hid (show R=firstP p.plain ((p.fs.drop (k+1)).map FunM.plain) ((k+1:Nat)) from by rw[HR.out,List.drop_length];rfl)
  clear HR;go_wp2_with fail
  exact ⟨⟨k+1,by omega,by go_num,HR3,HB14.out⟩,by simp[intOf];omega⟩
 obtain rfl:k=p.fs.length:=by omega
 have HR3:=Lib.hid (show R=none from by rw[HR.out,List.drop_length];rfl)
 clear HR;go_wp2_with fail
 refine bodyPost_ret (v:=.agg #[.int .i64 0,.int .i64 0,.int .i64 0]) ?_ rfl ⟨by rw[HR3.out];rfl,((HB2.out.setCell hgb _).setCell hgb _).setCell hgb _⟩
 simp[results,Try.results37,go_sem,e0,e1,e2]
end
section
open Go.RowKit
set_option maxRecDepth 100000 in
set_option maxHeartbeats 4000000 in
theorem check_any (p:PrgM) (w:World) (h:PrgAt w p):Calls Try.prog 36 #[p.val] w fun e w'=>e= .returned (.int .i64 (checkL p.plain))∧Below w.heap.size w w':=by
 obtain ⟨mem,AD,cD,data,AF,cF,fs⟩:=p;have H:=Lib.hid h;have hdl:data.length≤140737488351232:=h.dlen;have hfl:fs.length≤2932031007402:=h.flen;clear h;obtain ⟨R,hR⟩:∃R,R=checkL (PrgM.plain ⟨mem,AD,cD,data,AF,cF,fs⟩):=⟨_,rfl⟩;rw[←hR];unfold checkL at hR;cases hbh:badH (PrgM.plain ⟨mem,AD,cD,data,AF,cF,fs⟩) with
 |true=>
  rw[if_pos hbh] at hR;have HR:=Lib.hid hR;have hc:=badH_cases hbh;clear hR hbh;simp only[PrgM.plain,List.length_map] at hc;rcases hc with h1|⟨h1,h2⟩|⟨h1,h2,h3⟩|⟨h1,h2,h3,h4⟩|⟨h1,h2,h3,h4,h5⟩
  all_goals
   go_enter Try.func36,Try.ntmps36
   go_wp2_with fail
   go_ret
   exact ⟨by rw[HR.out];rfl,(Below.refl _ _).alloc (Nat.le_refl _) _⟩
 |false=>
  rw[if_neg (by rw[hbh];decide)] at hR
  have hc:=badH_not hbh;clear hbh;simp only[PrgM.plain,List.length_map] at hc;obtain ⟨h1,h2,h3,h4,h5⟩:=hc;have HR:=Lib.hid (show R=checkF ((fs.drop 0).map FunM.plain) from hR)
  clear hR;go_enter Try.func36,Try.ntmps36
  go_wp2_with fail
  obtain ⟨w1,hw1⟩:∃w1,w1=w.alloc (.cells #[.int .i64 mem,.slice AD data.length cD,.slice AF fs.length cF] 26):=⟨_,rfl⟩;rw[←hw1];have hb1:Below w.heap.size w w1:=by rw[hw1];exact (Below.refl _ _).alloc (Nat.le_refl _) _
  have hX1:Blk w1 w.heap.size 26 #[.int .i64 mem,.slice AD data.length cD,.slice AF fs.length cF]:=by rw[hw1];exact Blk.new _ _ _
  have hz1:=hX1.lt;have Hb1:=Lib.hid hb1;have HX1:=Lib.hid hX1;clear hw1 hb1 hX1;go_loopw [38] (fun i wr=>∃k:Nat,k≤fs.length∧i= .int .i64 k∧Hid (R=checkF ((fs.drop k).map FunM.plain))∧Below w1.heap.size w1 wr) (fun i _=>fs.length-(intOf i).toNat)
  case atStart=>exact ⟨0,Nat.zero_le _,rfl,HR,Below.refl _ _⟩
  rename World=>w2;obtain ⟨k,hk,rfl,hRk,hB⟩:=hrel;have hz2:=hB.size;have HB2:=Lib.hid (Hb1.out.trans (hB.mono (by omega)))
  have hX2:=HX1.out.below hB hz1;have x2:w2.cell? ⟨w.heap.size,2,none⟩=some (.slice AF fs.length cF):=hX2.cell 2;have hxl2:=hX2.lt;have HB12:=Lib.hid hB;clear hB hX2;by_cases hlt:k<fs.length
  ·have g2:(k:Int)<(fs.length:Int):=by omega
   have hP2:=H.out.below HB2.out;obtain ⟨b,off,hA,hb,hc⟩:=hP2.rv.at_ (by rw[funCells_len];dsimp only;omega)
   dsimp only at hA;subst hA;obtain ⟨q0,q1,q2,q3⟩:=fun_cells hc k hlt;have hF:=hP2.funs _ (List.getElem_mem hlt);have hdr:fs.drop k=fs[k]::fs.drop (k+1):=List.drop_eq_getElem_cons hlt;rw[hdr,List.map_cons] at hRk;dsimp only at q0 q1 q2 q3;obtain ⟨f,hf⟩:∃f:FunM,f=fs[k]:=⟨_,rfl⟩;rw[←hf] at q0 q1 q2 q3 hF hRk;obtain ⟨fa,fl,fr,FA,fc,fcode⟩:=f;dsimp only at q0 q1 q2 q3;have hcl:fcode.length≤8796093021952:=hF.len;have HF:=Lib.hid hF;have hRk2:=hRk.out;unfold checkF at hRk2;clear hF hP2 hc hdr hf hRk;cases hbf:badF (FunM.plain ⟨fa,fl,fr,FA,fc,fcode⟩) with
   |true=>
    rw[if_pos hbf] at hRk2;have HRk:=Lib.hid hRk2;have hcs:=badF_cases hbf;clear hRk2 hbf;simp only[FunM.plain] at hcs;rcases hcs with f1|⟨f1,f2⟩|⟨f1,f2,f3⟩|⟨f1,f2,f3,f4⟩|⟨f1,f2,f3,f4,f5⟩|⟨f1,f2,f3,f4,f5,f6⟩|⟨f1,f2,f3,f4,f5,f6,f7⟩|⟨f1,f2,f3,f4,f5,f6,f7,f8⟩
    all_goals
     go_wp2_with fail
     go_ret
     exact ⟨by rw[HRk.out];rfl,HB2.out.alloc (by omega) _⟩
   |false=>
    rw[if_neg (by rw[hbf];decide)] at hRk2
    have hcs:=badF_not hbf;simp only[FunM.plain] at hcs;obtain ⟨f1,f2,f3,f4,f5,f6,f7,f8⟩:=hcs;have HRk:=Lib.hid hRk2;clear hRk2 hbf;go_wp2_with fail
    obtain ⟨w3,hw3⟩:∃w3,w3=w2.alloc (.cells #[.int .i64 fa,.int .i64 fl,.int .i64 fr,.slice FA fcode.length fc] 43):=⟨_,rfl⟩;rw[←hw3];have hb23:Below w2.heap.size w2 w3:=by rw[hw3];exact (Below.refl _ _).alloc (Nat.le_refl _) _
    have henc:=encode_any FA fc fcode w3 (HF.out.rv.below hb23) HF.out.ok (by unfold maxLen;omega)
    obtain ⟨ys,er,hen⟩:∃ys er,encL fcode=(ys,er):=⟨_,_,rfl⟩;rw[hen] at henc
    have HRk:Hid (R=if er=0 then checkF ((fs.drop (k+1)).map FunM.plain) else er):=Lib.hid (by
     have h:=HRk.out;rw[show (FunM.plain ⟨fa,fl,fr,FA,fc,fcode⟩).code=fcode from rfl] at h
     simp only[hen] at h;exact h)
    have Henc:=Lib.hid henc;have hz23:=hb23.size;have HB3:=Lib.hid (HB12.out.trans (hb23.mono hz2));clear hw3 hb23 henc hen q0 q1 q2 q3 HF;refine Henc.out.mono ?_;intro e w4 hpost;obtain ⟨A4,c4,rfl,hown4,hb4⟩:=hpost;have HB4:=Lib.hid (HB3.out.trans (hb4.mono HB3.out.size));clear hown4 hb4 Henc;dsimp only at*;by_cases he:er=0
    ·have HRn:Hid (R=checkF ((fs.drop (k+1)).map FunM.plain)):=Lib.hid (by rw[HRk.out,if_pos he])
     subst he;clear HRk;go_wp2_with fail
     exact ⟨⟨k+1,by omega,by go_num,HRn,HB4.out⟩,by simp[intOf];omega⟩
    have HRn:Hid (R=er):=Lib.hid (by rw[HRk.out,if_neg he])
    clear HRk;go_wp2_with fail
    go_ret
    exact ⟨by rw[HRn.out];rfl,Hb1.out.trans (HB4.out.mono (by omega))⟩
  have hRt:R=0:=by rw[hRk.out,List.drop_eq_nil_of_le (by omega)];rfl
  have HRt:=Lib.hid hRt;clear hRt hRk;go_wp2_with fail
  go_ret
  exact ⟨by rw[HRt.out];rfl,HB2.out⟩
end
end Go.Proofs.Ytcmpmhlcfalbhaa
