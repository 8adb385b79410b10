import Derived.Test.YtcmpmhlcfalbhaaV11
import Derived.Test.YtcmpmhlcfalbhaaV18
import Derived.Test.YtcmpmhlcfalbhaaV07
import Derived.Deep.QuietTactic
import Derived.BigQuiet
namespace Go.Proofs.Ytcmpmhlcfalbhaa
section
open Go.RowKit
set_option maxRecDepth 100000 in
set_option maxHeartbeats 4000000 in
theorem refShapes_any (p:PrgM) (w:World) (h:PrgAt w p):Calls Try.prog 47 #[p.val] w fun e w'=>e= .returned (faultV (firstP p.plain p.plain.fs 0))∧Below w.heap.size w w':=by
 obtain ⟨R,hR⟩:∃R,R=firstP p.plain p.plain.fs 0:=⟨_,rfl⟩;rw[←hR];have hfl:p.fs.length≤2932031007402:=h.flen;obtain ⟨AF,hAF⟩:∃A,A=p.AF:=⟨_,rfl⟩;show Calls Try.prog _ #[.agg #[.int .i64 p.mem,.slice p.AD p.data.length p.cD,.slice p.AF p.fs.length p.cF]] w _
 rw[←hAF];have HAF:=Lib.hid hAF;clear hAF;have HR:=Lib.hid (show R=firstP p.plain ((p.fs.drop 0).map FunM.plain) 0 from hR)
 obtain ⟨w1,hw1⟩:∃w1,w1=(w.alloc (.cells #[.int .i64 p.mem,.slice p.AD p.data.length p.cD,.slice AF p.fs.length p.cF] 26)).alloc (.cells #[.int .i64 0,.int .i64 0,.int .i64 0] 37):=⟨_,rfl⟩;have hb1:Below w.heap.size w w1:=by rw[hw1];exact ((Below.refl _ _).alloc (Nat.le_refl _) _).alloc (by simp) _
 have hX1:Blk w1 w.heap.size 26 #[.int .i64 p.mem,.slice p.AD p.data.length p.cD,.slice AF p.fs.length p.cF]:=by rw[hw1];exact (Blk.new w _ _).alloc _
 have hE1:Blk w1 (w.heap.size+1) 37 #[.int .i64 0,.int .i64 0,.int .i64 0]:=by
  rw[hw1];have h:=Blk.new (w.alloc (.cells #[.int .i64 p.mem,.slice p.AD p.data.length p.cD,.slice AF p.fs.length p.cF] 26)) 37 #[.int .i64 0,.int .i64 0,.int .i64 0];rw[World.size_alloc] at h;exact h
 obtain ⟨gx,hgx⟩:∃g,g=w.heap.size:=⟨_,rfl⟩;obtain ⟨ge,hge⟩:∃g,g=w.heap.size+1:=⟨_,rfl⟩;rw[←hgx] at hX1 hge;rw[hgx] at hge;rw[←hge] at hE1;rw[←hgx] at hge;have hgb:w.heap.size≤ge:=by omega
 have hgxl:=hX1.lt;have hgel:=hE1.lt;have HX:=Lib.hid hX1;have HE:=Lib.hid hE1;have Hw1:=Lib.hid hw1;have Hb1:=Lib.hid hb1;have HP:=Lib.hid (h.below hb1);have Hgx:=Lib.hid hgx;have Hge:=Lib.hid hge;have x2:w1.cell? ⟨gx,2,none⟩=some (.slice AF p.fs.length p.cF):=hX1.cell 2;have xl:=hX1.lt;clear h hw1 hb1 hX1 hE1 hgx hge hR;go_enter Try.func47,Try.ntmps47
 go_wp2_with fail
 rw[←Hw1.out, ←Hgx.out, ←Hge.out];clear x2 xl;go_loopw [3] (fun i wr=>∃k:Nat,k≤p.fs.length∧i= .int .i64 k∧Hid (R=firstP p.plain ((p.fs.drop k).map FunM.plain) k)∧Below w1.heap.size w1 wr) (fun i _=>p.fs.length-(intOf i).toNat)
 case atStart=>exact ⟨0,Nat.zero_le _,rfl,HR,Below.refl _ _⟩
 rename World=>w2;clear HR;obtain ⟨k,hk,rfl,HR,hB⟩:=hrel;have HX2:=Lib.hid (HX.out.below hB HX.out.lt);have HE2:=Lib.hid (HE.out.below hB HE.out.lt);have HP2:=Lib.hid (HP.out.below hB);have hz2:=hB.size;have HB2:=Lib.hid (Hb1.out.trans (hB.mono Hb1.out.size));have HB12:=Lib.hid hB;clear hB;have x2:w2.cell? ⟨gx,2,none⟩=some (.slice AF p.fs.length p.cF):=HX2.out.cell 2;have xl:=HX2.out.lt;have e0:w2.cell? ⟨ge,0,none⟩=some (.int .i64 0):=HE2.out.cell 0;have ef0:w2.frozen? ⟨ge,0,none⟩=false:=HE2.out.frozen 0;have e1:w2.cell? ⟨ge,1,none⟩=some (.int .i64 0):=HE2.out.cell 1;have ef1:w2.frozen? ⟨ge,1,none⟩=false:=HE2.out.frozen 1;have e2:w2.cell? ⟨ge,2,none⟩=some (.int .i64 0):=HE2.out.cell 2;have ef2:w2.frozen? ⟨ge,2,none⟩=false:=HE2.out.frozen 2;have el:=HE2.out.lt;by_cases hlt:k<p.fs.length
 ·have g1:(k:Int)<(p.fs.length:Int):=by omega
  obtain ⟨g,hg⟩:∃g,p.fs[k]?=some g:=⟨_,List.getElem?_eq_getElem hlt⟩;obtain ⟨b,off,hA,hb,q0,q1,q2,q3,hF,hFl⟩:=HP2.out.fn hg;have hdr:p.fs.drop k=g::p.fs.drop (k+1):=by rw[List.drop_eq_getElem_cons hlt];congr 1;exact (List.getElem?_eq_some_iff.1 hg).2
  have HR2:=Lib.hid (show R=joinF (firstI (badOp p.plain g.plain) (g.code.drop 0) 0) k (firstP p.plain ((p.fs.drop (k+1)).map FunM.plain) (k+1)) from by rw[HR.out,hdr];rfl)
  have hcl:=hF.len;have hpl:p.plain.fs.length=p.fs.length:=by unfold PrgM.plain;rw[List.length_map]
  have Hpl:=Lib.hid hpl;rw[←HAF.out] at hA;subst hA;have HF:=Lib.hid hF;have HG:=Lib.hid hg;clear HR hdr hg hF hpl;obtain ⟨ga,gl,gr,gA,gc,gcode⟩:=g;dsimp only at q0 q1 q2 q3 hcl;have HX3:=HX2;have HE3:=HE2;have HFn3:=HF;have HB3:=HB2;have HB13:=HB12;go_wp2_with fail
  clear x2 xl e0 ef0 e1 ef1 e2 ef2 el q0 q1 q2 q3;go_loopw [5] (fun i wr=>∃j:Nat,j≤gcode.length∧i= .int .i64 j∧Hid (R=joinF (firstI (badOp p.plain (FunM.plain ⟨ga,gl,gr,gA,gc,gcode⟩)) (gcode.drop j) j) k (firstP p.plain ((p.fs.drop (k+1)).map FunM.plain) (k+1)))∧Below w2.heap.size w2 wr) (fun i _=>gcode.length-(intOf i).toNat)
  case atStart=>exact ⟨0,Nat.zero_le _,rfl,HR2,Below.refl _ _⟩
  rename World=>w4;clear HR2;obtain ⟨j,hj,rfl,HR,hB⟩:=hrel;have HX4:=Lib.hid (HX3.out.below hB HX3.out.lt);have HE4:=Lib.hid (HE3.out.below hB HE3.out.lt);have HFn4:=Lib.hid (HFn3.out.below hB);have HB4:=Lib.hid (HB3.out.trans (hB.mono HB3.out.size));have HB14:=Lib.hid (HB13.out.trans (hB.mono HB13.out.size));have HB34:=Lib.hid hB;have hz4:=hB.size;clear hB;by_cases hlt2:j<gcode.length
  ·have g2:(j:Int)<(gcode.length:Int):=by omega
   obtain ⟨i,hi⟩:∃i,gcode[j]?=some i:=⟨_,List.getElem?_eq_getElem hlt2⟩;obtain ⟨b2,off2,hA,hb2,r0,r1,hio,hjl⟩:=HFn4.out.ins hi;dsimp only at hA;subst hA;have hdr:gcode.drop j=i::gcode.drop (j+1):=by rw[List.drop_eq_getElem_cons hlt2];congr 1;exact (List.getElem?_eq_some_iff.1 hi).2
   have hbc:=badOp_cases p.plain (FunM.plain ⟨ga,gl,gr,some ⟨b2,off2,none⟩,gc,gcode⟩) i;have hR2:=HR.out;rw[hdr] at hR2;unfold firstI at hR2;generalize badOp p.plain (FunM.plain ⟨ga,gl,gr,some ⟨b2,off2,none⟩,gc,gcode⟩) i=E at*
   have HR2:=Lib.hid hR2;rw[Hpl.out,show (FunM.plain ⟨ga,gl,gr,some ⟨b2,off2,none⟩,gc,gcode⟩).code.length=gcode.length from rfl,show (FunM.plain ⟨ga,gl,gr,some ⟨b2,off2,none⟩,gc,gcode⟩).locals=gl from rfl] at hbc
   clear HR hR2 hdr hi hio;obtain ⟨op,a⟩:=i;dsimp only at r0 r1 hbc;obtain ⟨b3,off3,hA,hb3,q0,q1,q2,q3,hF,hFl3⟩:=(HP2.out.below HB34.out).fn HG.out;dsimp only at q0 q1 q2 q3;have x2:w4.cell? ⟨gx,2,none⟩=some (.slice (some ⟨b,off,none⟩) p.fs.length p.cF):=HX4.out.cell 2;have xl:=HX4.out.lt;have e0:w4.cell? ⟨ge,0,none⟩=some (.int .i64 0):=HE4.out.cell 0;have ef0:w4.frozen? ⟨ge,0,none⟩=false:=HE4.out.frozen 0;have e1:w4.cell? ⟨ge,1,none⟩=some (.int .i64 0):=HE4.out.cell 1;have ef1:w4.frozen? ⟨ge,1,none⟩=false:=HE4.out.frozen 1;have e2:w4.cell? ⟨ge,2,none⟩=some (.int .i64 0):=HE4.out.cell 2;have ef2:w4.frozen? ⟨ge,2,none⟩=false:=HE4.out.frozen 2;have el:=HE4.out.lt;rw[←HAF.out] at hA;injection hA with hA
   injection hA with hA1 hA2
   subst hA1 hA2;clear hF;rcases hbc with ⟨hop,hbad,hE⟩|⟨hop,hbad,hE⟩|⟨hop,hbad,hE⟩|⟨hop,hbad,hE⟩|⟨hop,hbad,hE⟩|⟨hop,hbad,hE⟩|⟨o1,o2,o3,o4,o5,o6,hE⟩
   ·rcases hop with rfl|rfl|rfl
    all_goals
     have HR3:=Lib.hid (show R=some (131,(k:Int),(j:Int)) from by rw[HR2.out,hE,if_neg (by decide)];rfl)
     go_wp2_with fail
     refine bodyPost_ret (v:=.agg #[.int .i64 131,.int .i64 (k:Int),.int .i64 (j:Int)]) ?_ rfl ⟨by rw[HR3.out];rfl,((HB4.out.setCell hgb _).setCell hgb _).setCell hgb _⟩
     simp[results,Try.results47,go_sem,e0,e1,e2]
   ·rcases hop with rfl|rfl|rfl
    all_goals
     have HR3:=Lib.hid (show R=joinF (firstI (badOp p.plain (FunM.plain ⟨ga,gl,gr,some ⟨b2,off2,none⟩,gc,gcode⟩)) (gcode.drop (j+1)) (j+1)) k (firstP p.plain ((p.fs.drop (k+1)).map FunM.plain) (k+1)) from by rw[HR2.out,hE,if_pos rfl])
     go_wp2_with fail
     exact ⟨⟨j+1,by omega,by go_num,HR3,HB34.out⟩,by simp[intOf];omega⟩
   ·rcases hop with rfl|rfl
    all_goals
     have HR3:=Lib.hid (show R=some (132,(k:Int),(j:Int)) from by rw[HR2.out,hE,if_neg (by decide)];rfl)
     go_wp2_with fail
     refine bodyPost_ret (v:=.agg #[.int .i64 132,.int .i64 (k:Int),.int .i64 (j:Int)]) ?_ rfl ⟨by rw[HR3.out];rfl,((HB4.out.setCell hgb _).setCell hgb _).setCell hgb _⟩
     simp[results,Try.results47,go_sem,e0,e1,e2]
   ·rcases hop with rfl|rfl
    all_goals
     have HR3:=Lib.hid (show R=joinF (firstI (badOp p.plain (FunM.plain ⟨ga,gl,gr,some ⟨b2,off2,none⟩,gc,gcode⟩)) (gcode.drop (j+1)) (j+1)) k (firstP p.plain ((p.fs.drop (k+1)).map FunM.plain) (k+1)) from by rw[HR2.out,hE,if_pos rfl])
     go_wp2_with fail
     exact ⟨⟨j+1,by omega,by go_num,HR3,HB34.out⟩,by simp[intOf];omega⟩
   ·subst hop
    all_goals
     have HR3:=Lib.hid (show R=some (133,(k:Int),(j:Int)) from by rw[HR2.out,hE,if_neg (by decide)];rfl)
     go_wp2_with fail
     refine bodyPost_ret (v:=.agg #[.int .i64 133,.int .i64 (k:Int),.int .i64 (j:Int)]) ?_ rfl ⟨by rw[HR3.out];rfl,((HB4.out.setCell hgb _).setCell hgb _).setCell hgb _⟩
     simp[results,Try.results47,go_sem,e0,e1,e2]
   ·subst hop
    all_goals
     have HR3:=Lib.hid (show R=joinF (firstI (badOp p.plain (FunM.plain ⟨ga,gl,gr,some ⟨b2,off2,none⟩,gc,gcode⟩)) (gcode.drop (j+1)) (j+1)) k (firstP p.plain ((p.fs.drop (k+1)).map FunM.plain) (k+1)) from by rw[HR2.out,hE,if_pos rfl])
     go_wp2_with fail
     exact ⟨⟨j+1,by omega,by go_num,HR3,HB34.out⟩,by simp[intOf];omega⟩
   have HR3:=Lib.hid (show R=joinF (firstI (badOp p.plain (FunM.plain ⟨ga,gl,gr,some ⟨b2,off2,none⟩,gc,gcode⟩)) (gcode.drop (j+1)) (j+1)) k (firstP p.plain ((p.fs.drop (k+1)).map FunM.plain) (k+1)) from by rw[HR2.out,hE,if_pos rfl])
   go_wp2_with fail
   exact ⟨⟨j+1,by omega,by go_num,HR3,HB34.out⟩,by simp[intOf];omega⟩
  obtain rfl:j=gcode.length:=by omega
  have HR3:=Lib.hid (show R=firstP p.plain ((p.fs.drop (k+1)).map FunM.plain) ((k+1:Nat)) from by rw[HR.out,List.drop_length];rfl)
  clear HR;go_wp2_with fail
  exact ⟨⟨k+1,by omega,by go_num,HR3,HB14.out⟩,by simp[intOf];omega⟩
 obtain rfl:k=p.fs.length:=by omega
 have HR3:=Lib.hid (show R=none from by rw[HR.out,List.drop_length];rfl)
 clear HR;go_wp2_with fail
 refine bodyPost_ret (v:=.agg #[.int .i64 0,.int .i64 0,.int .i64 0]) ?_ rfl ⟨by rw[HR3.out];rfl,((HB2.out.setCell hgb _).setCell hgb _).setCell hgb _⟩
 simp[results,Try.results47,go_sem,e0,e1,e2]
end
section
open Go.RowKit
attribute [local go_sem] rowVal
theorem nilSl (w:World):Sl w ⟨none,0,[]⟩:=⟨RV.nil _ _,fun _=>⟨rfl,rfl⟩⟩
theorem putN_any (n:Int) (w:World) (h0:0≤n) (h1:n≤9223372036854775807):Calls Try.prog 76 #[.agg #[.int .i64 1,.int .i64 n,.slice none 0 0]] w (FreshB w (formL n.toNat)):=
 refPut_any ⟨1,n,⟨none,0,[]⟩⟩ w (nilSl w) ⟨by dsimp only;omega,by dsimp only;omega,by dsimp only;omega,h1,by simp⟩ (fun _=>h0) (by simp)
theorem putI_any (n:Int) (w:World) (h0: -9223372036854775808≤n) (h1:n≤9223372036854775807):Calls Try.prog 76 #[.agg #[.int .i64 2,.int .i64 n,.slice none 0 0]] w (FreshB w (formL (foldN n))):=
 refPut_any ⟨2,n,⟨none,0,[]⟩⟩ w (nilSl w) ⟨by dsimp only;omega,by dsimp only;omega,h0,h1,by simp⟩ (fun h=>by dsimp only at h;omega) (by simp)
set_option maxRecDepth 100000 in
set_option maxHeartbeats 2000000 in
theorem refEncode_any (A:Option Addr) (c:Nat) (l:List Ins) (w:World) (hR:RV w A (l.flatMap insCells)) (hok:∀i∈l,InsOk i) (hl:l.length≤maxLen):
  Calls Try.prog 54 #[.slice A l.length c] w (EncPost w (encL l)):=by
 unfold maxLen at hl
 have HR:=Lib.hid hR
 have Hok:=Lib.hid hok
 clear hR hok
 by_cases hbig:4096<l.length
 ·have g1:(4096:Int)<(l.length:Int):=by omega
  have e:encL l=([],2):=by unfold encL;rw[if_pos hbig]
  rw[e];go_enter Try.func54,Try.ntmps54
  go_wp2_with fail
  go_ret2
  exact ⟨none,0,rfl,Own.nil _ _ _ _,Below.refl _ _⟩
 have g1: ¬ (4096:Int)<(l.length:Int):=by omega
 have e:encL l=encFrom [] l:=by unfold encL;rw[if_neg hbig]
 rw[e]
 obtain ⟨R,hRe⟩:∃R,R=encFrom [] l:=⟨_,rfl⟩
 rw[←hRe]
 have HRe:=Lib.hid hRe
 clear e hRe
 go_enter Try.func54,Try.ntmps54
 go_wp2_with fail
 go_loopw [4,5] (fun v i wr=>∃(k:Nat) (A':Option Addr) (c':Nat) (xs:List UInt8),k≤l.length∧i= .int .i64 k∧v= .slice A' xs.length c'∧OwnB wr w.heap.size A' xs.length c' xs∧xs.length≤18*k∧Hid (R=encFrom xs (l.drop k))∧Below w.heap.size w wr) (fun _ i _=>l.length-(intOf i).toNat)
 case atStart=>exact ⟨0,none,0,[],Nat.zero_le _,rfl,rfl,Own.nil _ _ _ _,by simp,HRe,Below.refl _ _⟩
 case round=>
  rename World=>w4;obtain ⟨k,A',c',xs,hk,rfl,rfl,hown,hxl,hRk,hB⟩:=hrel;have hz4:=hB.size;have Hown:=Lib.hid hown;have HB4:=Lib.hid hB;clear hown hB;by_cases hlt:k<l.length
  ·have g2:(k:Int)<(l.length:Int):=by omega
   have hRr:=HR.out.below HB4.out;obtain ⟨b,off,rfl,hb,hc⟩:=hRr.at_ (by rw[insCells_len];omega)
   have hbw:b<w.heap.size:=by
    obtain ⟨b2,off2,e,h,-⟩:=HR.out.at_ (by rw[insCells_len];omega)
    injection e with e;injection e with e;omega
   have hAw:∀q,A'.map (·.block)=some q→w.heap.size≤q∧q<w4.heap.size:=Own.row Hown.out;have q0:=hc _ _ (insCells_get l k 0 hlt (by omega))
   have q1:=hc _ _ (insCells_get l k 1 hlt (by omega))
   have hx:=Hok.out _ (List.getElem_mem hlt);have hdr:l.drop k=l[k]::l.drop (k+1):=List.drop_eq_getElem_cons hlt;rw[hdr] at hRk;obtain ⟨x,hxe⟩:∃x:Ins,x=l[k]:=⟨_,rfl⟩;rw[←hxe] at q0 q1 hx hRk;rw[←Nat.add_assoc] at q1;replace q0:w4.cell? ⟨b,off+k*2,none⟩=some (.int .i64 x.op):=q0
   replace q1:w4.cell? ⟨b,off+k*2+1,none⟩=some (.int .i64 x.a):=q1
   clear hc hRr hdr hxe;go_wp2_with fail
   refine (refOf_any x.op w4).mono ?_;intro e w5 hpost;obtain ⟨rfl,hb45⟩:=hpost;obtain ⟨rv,hrv⟩:∃rv,rv=(rowAt shapeTab x.op).1:=⟨_,rfl⟩;rw[←hrv,show (rowAt shapeTab x.op).2=isOp x.op from rfl]
   have hz45:=hb45.size;have r0:w5.cell? ⟨b,off+k*2,none⟩=some (.int .i64 x.op):=by rw[(bcell hb45).1 _ _ hb];exact q0
   have r1:w5.cell? ⟨b,off+k*2+1,none⟩=some (.int .i64 x.a):=by rw[(bcell hb45).1 _ _ hb];exact q1
   have hb5:b<w5.heap.size:=by omega
   have Hrv:=Lib.hid hrv;have Hown5:=Lib.hid (Own.below Hown.out hb45 (Nat.le_refl _));have HB5:=Lib.hid (HB4.out.trans (hb45.mono hz4));have hz5:=HB5.out.size;clear hrv hb45 q0 q1 Hown;cases hop:isOp x.op with
   |false=>
    have hRx:R=([],111):=by rw[hRk.out];unfold encFrom;rw[if_pos hop]
    have HF:=Lib.hid (show ∀w',Below w5.heap.size w5 w'→EncPost w R (.returned (.tuple #[.slice none 0 0,.int .i64 111])) w' from fun w' h=>by rw[hRx];exact ⟨none,0,rfl,Own.nil _ _ _ _,HB5.out.trans (h.mono hz5)⟩)
    clear hRx;go_wp2_with fail
    go_ret2
    exact HF.out _ ((Below.refl _ _).alloc (Nat.le_refl _) _)
   |true=>
    obtain ⟨nn,hnn,hn46,r,hr1,hr2,hkd,hk6⟩:=isOp_row hop;rw[←Hrv.out] at hr2;subst hr2;obtain ⟨kd,hkde⟩:∃kd,kd=kindN x.op:=⟨_,rfl⟩;rw[←hkde] at hkd hk6;have Hkde:=Lib.hid hkde;clear hkde;obtain ⟨nm,q1,q2,q3⟩:=rv;dsimp only at hkd;subst hkd;go_wp2_with fail
    try simp only[Act.put]
    obtain ⟨w6,hw6⟩:∃w6,w6=w5.alloc (.cells #[.string ⟨nm.toArray⟩,.int .i64 (kd:Int),.int .i64 q2,.int .i64 q3] 103):=⟨_,rfl⟩;rw[←hw6];have hb56:Below w5.heap.size w5 w6:=by rw[hw6];exact (Below.refl _ _).alloc (Nat.le_refl _) _
    have hX6:Blk w6 w5.heap.size 103 #[.string ⟨nm.toArray⟩,.int .i64 (kd:Int),.int .i64 q2,.int .i64 q3]:=by rw[hw6];exact Blk.new _ _ _
    have y1:w6.cell? ⟨w5.heap.size,1,none⟩=some (.int .i64 (kd:Int)):=hX6.cell 1;have s0:w6.cell? ⟨b,off+k*2,none⟩=some (.int .i64 x.op):=by rw[(bcell hb56).1 _ _ hb5];exact r0
    have s1:w6.cell? ⟨b,off+k*2+1,none⟩=some (.int .i64 x.a):=by rw[(bcell hb56).1 _ _ hb5];exact r1
    have hb6:b<w6.heap.size:=by have:=hb56.size;omega
    have hy6:=hX6.lt;have Hown6:=Lib.hid (Own.below Hown5.out hb56 (Nat.le_refl _));have HB6:=Lib.hid (HB5.out.trans (hb56.mono hz5));have HX6:=Lib.hid hX6;have hz6:=HB6.out.size;clear hw6 hb56 hX6 r0 r1 Hown5 HB5;cases hmb:mayB kd x.a with
    |false=>
     have hRx:R=([],112):=by rw[hRk.out];unfold encFrom;rw[if_neg (by rw[hop];decide), ←Hkde.out,if_pos hmb]
     have HF:=Lib.hid (show ∀w',Below w6.heap.size w6 w'→EncPost w R (.returned (.tuple #[.slice none 0 0,.int .i64 112])) w' from fun w' h=>by rw[hRx];exact ⟨none,0,rfl,Own.nil _ _ _ _,HB6.out.trans (h.mono hz6)⟩)
     have hmay:=fun w=>refMay_any kd x.a w hk6;rw[hmb] at hmay;have Hmay:=Lib.hid hmay;clear hRx hmay;go_quiet ((go_at_call 75;exact Calls.quiet_of_same (Hmay.out _)))
     go_wp2_with fail
     go_ret2
     exact HF.out _ (below_drewN (Below.refl _ _) _)
    |true=>
     have hmay:=fun w=>refMay_any kd x.a w hk6;rw[hmb] at hmay;have Hmay:=Lib.hid hmay;have Hmb:=Lib.hid hmb;clear hmay hmb;go_quiet ((go_at_call 75;exact Calls.quiet_of_same (Hmay.out _)))
     obtain ⟨w7,hw7⟩:∃w7,w7=w6.drewN nq:=⟨_,rfl⟩;have hb67:Below w6.heap.size w6 w7:=by rw[hw7];exact below_drewN (Below.refl _ _) _
     rw[←hw7];have t0:w7.cell? ⟨b,off+k*2,none⟩=some (.int .i64 x.op):=by rw[(bcell hb67).1 _ _ hb6];exact s0
     have t1:w7.cell? ⟨b,off+k*2+1,none⟩=some (.int .i64 x.a):=by rw[(bcell hb67).1 _ _ hb6];exact s1
     have z1:w7.cell? ⟨w5.heap.size,1,none⟩=some (.int .i64 (kd:Int)):=by rw[(bcell hb67).1 _ _ hy6];exact y1
     have hb7:b<w7.heap.size:=by have:=hb67.size;omega
     have hy7:w5.heap.size<w7.heap.size:=by have:=hb67.size;omega
     have Hown7:=Lib.hid (Own.below Hown6.out hb67 (Nat.le_refl _));have HB7:=Lib.hid (HB6.out.trans (hb67.mono hz6));have hz7:=HB7.out.size;clear hw7 hb67 s0 s1 y1 Hown6 HB6 HX6 Hmay;have hput:=putN_any x.op w7 (by omega) hx.o2
     have Hput:=Lib.hid hput;clear hput;go_wp2_with fail
     refine Hput.out.mono ?_;intro e w8 hpost;obtain ⟨A8,c8,rfl,hown8,hb8⟩:=hpost;have hfo:(formL x.op.toNat).length≤9:=formL_le9 _;obtain ⟨fa,hfa⟩:∃fa,fa=formL x.op.toNat:=⟨_,rfl⟩;rw[←hfa] at hown8 hfo ⊢
     have HRn:Hid (R=encFrom (xs++(fa++argL kd x.a)) (l.drop (k+1))):=Lib.hid (by
      rw[hRk.out];conv=>lhs;unfold encFrom
      rw[if_neg (by rw[hop];decide), ←Hkde.out,if_neg (by rw[Hmb.out];decide)]
      unfold insL;rw[←Hkde.out,hfa])
     have hz8:=hb8.size;have t1':w8.cell? ⟨b,off+k*2+1,none⟩=some (.int .i64 x.a):=by rw[(bcell hb8).1 _ _ hb7];exact t1
     have z1':w8.cell? ⟨w5.heap.size,1,none⟩=some (.int .i64 (kd:Int)):=by rw[(bcell hb8).1 _ _ hy7];exact z1
     have hownO:=Own.below Hown7.out hb8 (Nat.le_refl _);have hs8:=Sl.of_own hown8;have Hnil:=Lib.hid hs8.nil;have hrv8:=hs8.rv;have HB8:=Lib.hid (HB7.out.trans (hb8.mono hz7));have hzz8:=HB8.out.size;clear hfa hb8 hs8 hown8 t0 t1 z1 hRk Hput;go_wp2_with (refine wpList_at 45 rfl ?_;refine wpList_app rfl (.tmp 37) (.tmp 44) eByte rfl (base:=w.heap.size) (n:=xs.length) (c:=c') (A:=A') (vs:=xs.map bv) rfl hownO (A':=A8) (m:=fa.length) (c':=c8) (us:=fa.map bv) rfl hrv8 (by simp) (map_bv_one _) (by unfold maxLen;omega) (by omega) hzz8 Hnil.out ?_;intro A9 c9 w9 hown9 hg9 hat9;refine wp_stop ?_)
     refine ⟨?_⟩;have hO9:Only (fun q=>A'.map (·.block)=some q) w8 w9:=Only.of_grown hg9 fun q e=>e;have u1:w9.cell? ⟨b,off+k*2+1,none⟩=some (.int .i64 x.a):=by rw[(ocell hO9).1 _ _ (by omega) (fun e=>by have:=hAw _ e;omega)];exact t1'
     have v1:w9.cell? ⟨w5.heap.size,1,none⟩=some (.int .i64 (kd:Int)):=by rw[(ocell hO9).1 _ _ (by omega) (fun e=>by have:=hAw _ e;omega)];exact z1'
     have hb9:b<w9.heap.size:=by have:=hO9.size;omega
     have hy9:w5.heap.size<w9.heap.size:=by have:=hO9.size;omega
     have Hown9:=Lib.hid hown9;have HB9:=Lib.hid (HB8.out.grown hg9 hzz8 fun q hq=>(hAw q hq).1);have hz9:=HB9.out.size
     have hmbx:kd≠0→kd≠1→0≤x.a:=fun h0 h1=>by
      have h:=Hmb.out;unfold mayB at h;rw[if_neg h0,if_neg h1] at h;simp only[Bool.and_eq_true,decide_eq_true_eq] at h;exact h.1
     clear hown9 hg9 hat9 hO9 t1' z1' hownO hrv8 Hnil HB8 Hmb;by_cases hk1:kd=1
     ·subst hk1;clear hmbx;have hput:=putI_any x.a w9 hx.a1 hx.a2;have Hput:=Lib.hid hput;clear hput;go_wp2_with fail
      refine (Hput.out).mono ?_;intro e w10 hpost;obtain ⟨A10,c10,rfl,hown10,hb10⟩:=hpost;have hfa:(formL (foldN x.a)).length≤9:=formL_le9 _;have harg:argL 1 x.a=formL (foldN x.a):=rfl;obtain ⟨fb,hfb⟩:∃fb,fb=formL (foldN x.a):=⟨_,rfl⟩;rw[←hfb] at hown10 hfa harg ⊢;rw[harg, ←List.append_assoc] at HRn;have hz10:=hb10.size;have hownO10:=Own.below Hown9.out hb10 (Nat.le_refl _);have hs10:=Sl.of_own hown10;have Hnil10:=Lib.hid hs10.nil;have hrv10:=hs10.rv;have HB10:=Lib.hid (HB9.out.trans (hb10.mono hz9));have hzz10:=HB10.out.size;clear hfb hb10 hs10 hown10 harg;go_wp2_with (refine wpList_at 57 rfl ?_;refine wpList_app rfl (.tmp 49) (.tmp 56) eByte rfl (base:=w.heap.size) (n:=xs.length+fa.length) (c:=c9) (A:=A9) (vs:=xs.map bv++fa.map bv) rfl hownO10 (A':=A10) (m:=fb.length) (c':=c10) (us:=fb.map bv) rfl hrv10 (by simp) (map_bv_one _) (by unfold maxLen;omega) (by omega) hzz10 Hnil10.out ?_;intro A11 c11 w11 hown11 hg11 hat11)
      have hB11:=HB10.out.grown hg11 hzz10 fun k hk=>(hownO10.row k hk).1
      have hown11':OwnB w11 w.heap.size A11 (xs++fa++fb).length c11 (xs++fa++fb):=by
       rw[List.length_append,List.length_append];show Own w11 _ _ _ _ _ _ ((xs++fa++fb).map bv)
       rw[List.map_append,List.map_append];exact hown11
      exact ⟨⟨k+1,A11,c11,xs++fa++fb,by omega,by go_num,by rw[List.length_append,List.length_append],hown11',by rw[List.length_append,List.length_append];omega,HRn,hB11⟩,by simp[intOf];omega⟩
     by_cases hk0:kd=0
     ·subst hk0;clear hmbx;have harg:argL 0 x.a=[]:=rfl;rw[harg,List.append_nil] at HRn
      have hown9':OwnB w9 w.heap.size A9 (xs++fa).length c9 (xs++fa):=by
       rw[List.length_append];show Own w9 _ _ _ _ _ _ ((xs++fa).map bv)
       rw[List.map_append];exact Hown9.out
      have Hown9':=Lib.hid hown9';clear harg hown9';go_wp2_with fail
      exact ⟨⟨k+1,A9,c9,xs++fa,by omega,by go_num,by rw[List.length_append],Hown9'.out,by rw[List.length_append];omega,HRn,HB9.out⟩,by simp[intOf];omega⟩
     have ha0:=hmbx hk0 hk1;have g3: ¬ (kd:Int)=1:=by omega
     have g4: ¬ (kd:Int)=0:=by omega
     have hput:=putN_any x.a w9 ha0 hx.a2;have Hput:=Lib.hid hput;clear hput hmbx;go_wp2_with fail
     refine (Hput.out).mono ?_;intro e w10 hpost;obtain ⟨A10,c10,rfl,hown10,hb10⟩:=hpost;have hfa:(formL x.a.toNat).length≤9:=formL_le9 _;have harg:argL kd x.a=formL x.a.toNat:=by unfold argL;rw[if_neg hk0,if_neg hk1]
     obtain ⟨fb,hfb⟩:∃fb,fb=formL x.a.toNat:=⟨_,rfl⟩;rw[←hfb] at hown10 hfa harg ⊢;rw[harg, ←List.append_assoc] at HRn;have hz10:=hb10.size;have hownO10:=Own.below Hown9.out hb10 (Nat.le_refl _);have hs10:=Sl.of_own hown10;have Hnil10:=Lib.hid hs10.nil;have hrv10:=hs10.rv;have HB10:=Lib.hid (HB9.out.trans (hb10.mono hz9));have hzz10:=HB10.out.size;clear hfb hb10 hs10 hown10 harg;go_wp2_with (refine wpList_at 69 rfl ?_;refine wpList_app rfl (.tmp 61) (.tmp 68) eByte rfl (base:=w.heap.size) (n:=xs.length+fa.length) (c:=c9) (A:=A9) (vs:=xs.map bv++fa.map bv) rfl hownO10 (A':=A10) (m:=fb.length) (c':=c10) (us:=fb.map bv) rfl hrv10 (by simp) (map_bv_one _) (by unfold maxLen;omega) (by omega) hzz10 Hnil10.out ?_;intro A11 c11 w11 hown11 hg11 hat11)
     have hB11:=HB10.out.grown hg11 hzz10 fun k hk=>(hownO10.row k hk).1
     have hown11':OwnB w11 w.heap.size A11 (xs++fa++fb).length c11 (xs++fa++fb):=by
      rw[List.length_append,List.length_append];show Own w11 _ _ _ _ _ _ ((xs++fa++fb).map bv)
      rw[List.map_append,List.map_append];exact hown11
     exact ⟨⟨k+1,A11,c11,xs++fa++fb,by omega,by go_num,by rw[List.length_append,List.length_append],hown11',by rw[List.length_append,List.length_append];omega,HRn,hB11⟩,by simp[intOf];omega⟩
  obtain rfl:k=l.length:=by omega
  have hRx:R=(xs,0):=by rw[hRk.out,List.drop_length];rfl
  have HF:=Lib.hid (show EncPost w R (.returned (.tuple #[.slice A' xs.length c',.int .i64 0])) w4 from by rw[hRx];exact ⟨A',c',rfl,Hown.out,HB4.out⟩)
  clear hRx;go_wp2_with fail
  go_ret2
  exact HF.out
end
end Go.Proofs.Ytcmpmhlcfalbhaa
