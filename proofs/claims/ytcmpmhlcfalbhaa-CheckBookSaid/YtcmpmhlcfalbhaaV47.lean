import Derived.Test.YtcmpmhlcfalbhaaV11
import Derived.Test.YtcmpmhlcfalbhaaV36
import Derived.Test.YtcmpmhlcfalbhaaV34
import Derived.Test.YtcmpmhlcfalbhaaV42
import Derived.Test.YtcmpmhlcfalbhaaV04
import Derived.Test.YtcmpmhlcfalbhaaV44
import Derived.Test.YtcmpmhlcfalbhaaV45
import Derived.Test.YtcmpmhlcfalbhaaV35
import Derived.Test.YtcmpmhlcfalbhaaV46
namespace Go.Proofs.Ytcmpmhlcfalbhaa
open Go.RowKit
set_option maxRecDepth 100000 in
set_option maxHeartbeats 8000000 in
theorem refRun_any (p:PrgM) (w:World) (hp:PrgAt w p):Calls Try.prog 21 #[p.val] w (RunPost p.plain w):=by
 obtain ⟨w1,hw1⟩:∃w1,w1=((w.alloc (.cells #[.int .i64 p.mem,.slice p.AD p.data.length p.cD,.slice p.AF p.fs.length p.cF] 26)).alloc (.cells z6 32)).alloc (.cells #[.int .i64 0,.int .i64 0,.int .i64 0] 37):=⟨_,rfl⟩;have hb1:Below w.heap.size w w1:=by rw[hw1];exact (((Below.refl _ _).alloc (Nat.le_refl _) _).alloc (by simp) _).alloc (by simp;omega) _
 have hz1:w1.heap.size=w.heap.size+3:=by rw[hw1];simp
 have hB3:=blk3 w #[.int .i64 p.mem,.slice p.AD p.data.length p.cD,.slice p.AF p.fs.length p.cF] z6 #[.int .i64 0,.int .i64 0,.int .i64 0] 26 32 37;rw[←hw1] at hB3;obtain ⟨gx,hgx⟩:∃g,g=w.heap.size:=⟨_,rfl⟩;obtain ⟨gR,hgR⟩:∃g,g=w.heap.size+1:=⟨_,rfl⟩;obtain ⟨gE,hgE⟩:∃g,g=w.heap.size+1+1:=⟨_,rfl⟩;rw[←hgE, ←hgR, ←hgx] at hB3;obtain ⟨hBx,hBR,hBE⟩:=hB3;have Hg:=Lib.hid (show gx=w.heap.size∧gR=w.heap.size+1∧gE=w.heap.size+1+1∧w1.heap.size=w.heap.size+3 from ⟨hgx,hgR,hgE,hz1⟩)
 have hP1:=hp.below hb1;have x0:w1.cell? ⟨gx,0,none⟩=some (.int .i64 p.mem):=hBx.cell 0;have x1:w1.cell? ⟨gx,1,none⟩=some (.slice p.AD p.data.length p.cD):=hBx.cell 1;have x2:w1.cell? ⟨gx,2,none⟩=some (.slice p.AF p.fs.length p.cF):=hBx.cell 2;have xl:=hBx.lt;have HP:=Lib.hid hp;have HP1:=Lib.hid hP1;have HB1:=Lib.hid hb1;have Hw1:=Lib.hid hw1;have HBx:=Lib.hid hBx;have HBR:=Lib.hid hBR;have HBE:=Lib.hid hBE;have HCk:=Lib.hid (refCheck_any p w1 hP1);clear hp hP1 hb1 hw1 hgx hgR hgE hz1 hBx hBR hBE;go_enter Try.func21,Try.ntmps21
 go_wp2_with (refine wpList_at 17 rfl ?_;refine wp_stop ?_)
 try refine ⟨?_⟩
 rw[←Hw1.out, ←Hg.out.2.2.1, ←Hg.out.2.1, ←Hg.out.1];clear Hw1;go_wp2_with fail
 refine HCk.out.mono ?_;rintro e w2 ⟨rfl,hb2⟩;obtain ⟨ck,hck⟩:∃x,x=checkL p.plain:=⟨_,rfl⟩;rw[←hck];have hb12:=HB1.out.trans (hb2.mono (HB1.out.size));have HB2:=Lib.hid hb12;have Hb2:=Lib.hid hb2;have HBx2:=Lib.hid (HBx.out.below hb2 HBx.out.lt);have HBR2:=Lib.hid (HBR.out.below hb2 HBR.out.lt);have HBE2:=Lib.hid (HBE.out.below hb2 HBE.out.lt);have HP2:=Lib.hid (HP.out.below hb12);have Hck:=Lib.hid hck;have r0:w2.cell? ⟨gR,0,none⟩=some (.slice none 0 0):=HBR2.out.cell 0;have r1:w2.cell? ⟨gR,1,none⟩=some (.slice none 0 0):=HBR2.out.cell 1;have r2:w2.cell? ⟨gR,2,none⟩=some (.slice none 0 0):=HBR2.out.cell 2;have r3:w2.cell? ⟨gR,3,none⟩=some (.slice none 0 0):=HBR2.out.cell 3;have r4:w2.cell? ⟨gR,4,none⟩=some (.int .i64 0):=HBR2.out.cell 4;have r5:w2.cell? ⟨gR,5,none⟩=some (.int .i64 0):=HBR2.out.cell 5;have e0:w2.cell? ⟨gE,0,none⟩=some (.int .i64 0):=HBE2.out.cell 0;have e1:w2.cell? ⟨gE,1,none⟩=some (.int .i64 0):=HBE2.out.cell 1;have e2:w2.cell? ⟨gE,2,none⟩=some (.int .i64 0):=HBE2.out.cell 2;have rf:=HBR2.out.frozen;have ef:=HBE2.out.frozen;have rl:=HBR2.out.lt;have el:=HBE2.out.lt;have hRE: ¬ gR=gE:=by have:=Hg.out;omega
 have hER: ¬ gE=gR:=by have:=Hg.out;omega
 clear hb2 hb12 hck x0 x1 x2 xl HBx HBR HBE HCk HP1;by_cases h0:ck=0
 ·subst h0;have hck0:checkL p.plain=0:=Hck.out.symm;have hmany:=good_many hck0;have hml:p.plain.fs.length=p.fs.length:=by simp[PrgM.plain]
  rw[hml] at hmany;obtain ⟨g,hgf⟩:∃g,p.fs[0]?=some g:=⟨_,List.getElem?_eq_getElem (by omega)⟩
  obtain ⟨b0,off,hA,hb,q0,q1,q2,q3,hF,hFl⟩:=HP2.out.fn hgf;have x0:w2.cell? ⟨gx,0,none⟩=some (.int .i64 p.mem):=HBx2.out.cell 0;have x1:w2.cell? ⟨gx,1,none⟩=some (.slice p.AD p.data.length p.cD):=HBx2.out.cell 1;have x2:w2.cell? ⟨gx,2,none⟩=some (.slice (some ⟨b0,off,none⟩) p.fs.length p.cF):=by rw[←hA];exact HBx2.out.cell 2
  have xl:=HBx2.out.lt;have hfl0:(0:Int)<(p.fs.length:Int):=by omega
  obtain ⟨ga,hga⟩:∃x,x=g.args:=⟨_,rfl⟩;obtain ⟨gr,hgr⟩:∃x,x=g.results:=⟨_,rfl⟩;rw[Nat.zero_mul,Nat.add_zero] at q0 q2;rw[←hga] at q0;rw[←hgr] at q2;have Hck0:=Lib.hid hck0;have Hmany:=Lib.hid hmany;have HA:=Lib.hid hA;have Hga:=Lib.hid (show p.plain.args 0=ga from by rw[hga];exact PrgM.args_plain hgf)
  have Hgr:=Lib.hid (show p.plain.results 0=gr from by rw[hgr];exact PrgM.results_plain hgf)
  clear hck0 hml hA hF q1 q3 hga hgr hgf;by_cases ha0:ga=0
  ·by_cases hr1:gr=1
   ·have HLead:=Lib.hid (show Lead p.plain from ⟨Hck0.out,by rw[Hga.out,ha0],by rw[Hgr.out,hr1]⟩)
    subst ha0 hr1;have HOp:=Lib.hid (refShapes_any p w2 HP2.out);have hRl:=HBR2.out.lt;have hEl:=HBE2.out.lt;clear r0 r1 r2 r3 r4 r5 e0 e1 e2 rf ef rl el;go_upto_region 6 with (fail)
    clear q0 q2 hfl0 hb x2;have x2:w2.cell? ⟨gx,2,none⟩=some (.slice p.AF p.fs.length p.cF):=HBx2.out.cell 2;go_wp2_with fail
    refine HOp.out.mono ?_;rintro e w3 ⟨rfl,hb3⟩;have HBx3:=Lib.hid (HBx2.out.below hb3 HBx2.out.lt);have HBR3:=Lib.hid (HBR2.out.below hb3 HBR2.out.lt);have HBE3:=Lib.hid (HBE2.out.below hb3 HBE2.out.lt);have HB3:=Lib.hid (HB2.out.trans (hb3.mono HB2.out.size));have HP3:=Lib.hid (HP2.out.below hb3);clear hb3 HOp;cases hfp:firstP p.plain p.plain.fs 0 with
    |some x=>
     obtain ⟨er,ff,nn⟩:=x;have her:=firstP_ne hfp;dsimp only at her;have her2:(er != 0)=true:=by simpa using her
     have HBad:=Lib.hid (show BadAt p.plain (er,ff,nn) from .inr (.inr (.inl ⟨HLead.out,hfp⟩)))
     clear hfp;dsimp only[faultV];clear x0 x1 x2 xl hRl hEl HBx2 HBR2 HBE2 HP2;have hRl:=HBR3.out.lt;have hEl:=HBE3.out.lt;go_upto_region 8 with (fail)
     obtain ⟨gF,hgF⟩:∃g,g=w3.heap.size:=⟨_,rfl⟩;obtain ⟨w4,hw4⟩:∃w4,w4=w3.alloc (.cells #[.int .i64 er,.int .i64 ff,.int .i64 nn] 37):=⟨_,rfl⟩;rw[←hw4, ←hgF];have HBF:=Lib.hid (show Blk w4 gF 37 #[.int .i64 er,.int .i64 ff,.int .i64 nn] from by rw[hw4,hgF];exact Blk.new _ _ _)
     have HBRz:=Lib.hid (show Blk w4 gR 32 z6 from by rw[hw4];exact HBR3.out.alloc _)
     have HBEz:=Lib.hid (show Blk w4 gE 37 #[.int .i64 0,.int .i64 0,.int .i64 0] from by rw[hw4];exact HBE3.out.alloc _)
     have HBz:=Lib.hid (show Below w.heap.size w w4 from by rw[hw4];exact HB3.out.alloc HB3.out.size _)
     have hFR:gF≠gR:=by have:=HBR3.out.lt;omega
     have hFE:gF≠gE:=by have:=HBE3.out.lt;omega
     have r0:w4.cell? ⟨gR,0,none⟩=some (.slice none 0 0):=HBRz.out.cell 0;have r1:w4.cell? ⟨gR,1,none⟩=some (.slice none 0 0):=HBRz.out.cell 1;have r2:w4.cell? ⟨gR,2,none⟩=some (.slice none 0 0):=HBRz.out.cell 2;have r3:w4.cell? ⟨gR,3,none⟩=some (.slice none 0 0):=HBRz.out.cell 3;have r4:w4.cell? ⟨gR,4,none⟩=some (.int .i64 0):=HBRz.out.cell 4;have r5:w4.cell? ⟨gR,5,none⟩=some (.int .i64 0):=HBRz.out.cell 5;have e0:w4.cell? ⟨gE,0,none⟩=some (.int .i64 0):=HBEz.out.cell 0;have e1:w4.cell? ⟨gE,1,none⟩=some (.int .i64 0):=HBEz.out.cell 1;have e2:w4.cell? ⟨gE,2,none⟩=some (.int .i64 0):=HBEz.out.cell 2;have rf:=HBRz.out.frozen;have ef:=HBEz.out.frozen;have rl:=HBRz.out.lt;have el:=HBEz.out.lt;clear hgF hw4 hRl hEl;have f0:w4.cell? ⟨gF,0,none⟩=some (.int .i64 er):=HBF.out.cell 0;have f1:w4.cell? ⟨gF,1,none⟩=some (.int .i64 ff):=HBF.out.cell 1;have f2:w4.cell? ⟨gF,2,none⟩=some (.int .i64 nn):=HBF.out.cell 2;have fl:=HBF.out.lt;obtain ⟨SC,hSCd⟩:∃S:World→Prop,S=fun w'=>(w'.cell? ⟨gF,0,none⟩=some (.int .i64 er)∧w'.cell? ⟨gF,1,none⟩=some (.int .i64 ff)∧w'.cell? ⟨gF,2,none⟩=some (.int .i64 nn)∧gF<w'.heap.size):=⟨_,rfl⟩;have hSC:SC w4.drew:=by rw[hSCd];exact ⟨f0,f1,f2,fl⟩
     have HSC:=Lib.hid (show SC w4.drew from hSC)
     have HSd:=Lib.hid hSCd;clear hSC hSCd;refine region_heldT 4 SC (by kernel_rfl) (by decide) ?_
     refine hwA 0 (.agg #[.slice none 0 0,.slice none 0 0,.slice none 0 0,.slice none 0 0,.int .i64 0,.int .i64 0]) HSC.out ?_;simp only[Act.put,List.setIfInBounds_toArray];refine hwA 1 (.agg #[.int .i64 er,.int .i64 ff,.int .i64 nn]) HSC.out ?_;simp only[Act.put];obtain ⟨-,-,kO⟩:=store9 w4 gR gE _ _ HBRz.out HBEz.out rfl rfl hRE (.slice none 0 0) (.slice none 0 0) (.slice none 0 0) (.slice none 0 0) (.int .i64 0) (.int .i64 0) (.int .i64 er) (.int .i64 ff) (.int .i64 nn)
     have hSC1:SC ((((((w4.setCell ⟨gR,0,none⟩ (.slice none 0 0)).setCell ⟨gR,1,none⟩ (.slice none 0 0)).setCell ⟨gR,2,none⟩ (.slice none 0 0)).setCell ⟨gR,3,none⟩ (.slice none 0 0)).setCell ⟨gR,4,none⟩ (.int .i64 0)).setCell ⟨gR,5,none⟩ (.int .i64 0)).drew:=by
      rw[HSd.out];have kO1:Only (fun k=>k=gR) w4 ((((((w4.setCell ⟨gR,0,none⟩ (.slice none 0 0)).setCell ⟨gR,1,none⟩ (.slice none 0 0)).setCell ⟨gR,2,none⟩ (.slice none 0 0)).setCell ⟨gR,3,none⟩ (.slice none 0 0)).setCell ⟨gR,4,none⟩ (.int .i64 0)).setCell ⟨gR,5,none⟩ (.int .i64 0)).drew:=(((((((Only.refl (fun k=>k=gR) w4).setCell (p:=⟨gR,0,none⟩) (.inl rfl) _).setCell (p:=⟨gR,1,none⟩) (.inl rfl) _).setCell (p:=⟨gR,2,none⟩) (.inl rfl) _).setCell (p:=⟨gR,3,none⟩) (.inl rfl) _).setCell (p:=⟨gR,4,none⟩) (.inl rfl) _).setCell (p:=⟨gR,5,none⟩) (.inl rfl) _).drew;have hz:=kO1.size;have hn:gF≠gR:=hFR;exact ⟨(kO1.cell (p:=⟨gF,0,none⟩) fl hn).trans f0,(kO1.cell (p:=⟨gF,1,none⟩) fl hn).trans f1,(kO1.cell (p:=⟨gF,2,none⟩) fl hn).trans f2,by omega⟩
     have hSC2:SC (((((((((w4.setCell ⟨gR,0,none⟩ (.slice none 0 0)).setCell ⟨gR,1,none⟩ (.slice none 0 0)).setCell ⟨gR,2,none⟩ (.slice none 0 0)).setCell ⟨gR,3,none⟩ (.slice none 0 0)).setCell ⟨gR,4,none⟩ (.int .i64 0)).setCell ⟨gR,5,none⟩ (.int .i64 0)).setCell ⟨gE,0,none⟩ (.int .i64 er)).setCell ⟨gE,1,none⟩ (.int .i64 ff)).setCell ⟨gE,2,none⟩ (.int .i64 nn)).drew:=by
      rw[HSd.out];replace kO:=kO.drew
      have hz:=kO.size;have hn: ¬ (gF=gR∨gF=gE):=fun e=>e.elim hFR hFE;exact ⟨(kO.cell (p:=⟨gF,0,none⟩) fl hn).trans f0,(kO.cell (p:=⟨gF,1,none⟩) fl hn).trans f1,(kO.cell (p:=⟨gF,2,none⟩) fl hn).trans f2,by omega⟩
     clear kO;refine hwO 2 fun K hK=>?_;go_simp;refine hK.out _ _ hSC1 (fun hHeld=>?_);clear hK K hHeld;refine hwO 3 fun K hK=>?_;go_simp;refine hK.out _ _ hSC2 (fun hHeld=>?_);clear hK K hHeld;refine fun _=>⟨by kernel_rfl,?_⟩
     simp only[List.drop_succ_cons,List.drop_zero];clear HSC HSd hSC1 hSC2;clear SC;go_wp2_with fail
     obtain ⟨wf,hwf⟩:∃wf,wf=(((((((((w4.setCell ⟨gR,0,none⟩ (.slice none 0 0)).setCell ⟨gR,1,none⟩ (.slice none 0 0)).setCell ⟨gR,2,none⟩ (.slice none 0 0)).setCell ⟨gR,3,none⟩ (.slice none 0 0)).setCell ⟨gR,4,none⟩ (.int .i64 0)).setCell ⟨gR,5,none⟩ (.int .i64 0)).setCell ⟨gE,0,none⟩ (.int .i64 er)).setCell ⟨gE,1,none⟩ (.int .i64 ff)).setCell ⟨gE,2,none⟩ (.int .i64 nn)).drew:=⟨_,rfl⟩;rw[←hwf];obtain ⟨k1,k2,k3⟩:=store9 w4 gR gE _ _ HBRz.out HBEz.out rfl rfl hRE (.slice none 0 0) (.slice none 0 0) (.slice none 0 0) (.slice none 0 0) (.int .i64 0) (.int .i64 0) (.int .i64 er) (.int .i64 ff) (.int .i64 nn);replace k1:Blk wf gR 32 #[.slice none 0 0,.slice none 0 0,.slice none 0 0,.slice none 0 0,.int .i64 0,.int .i64 0]:=by rw[hwf];exact k1.drew
     replace k2:Blk wf gE 37 #[.int .i64 er,.int .i64 ff,.int .i64 nn]:=by rw[hwf];exact k2.drew
     replace k3:Only (fun k=>k=gR∨k=gE) w4 wf:=by rw[hwf];exact k3.drew
     clear hwf;have hbelow:Below w.heap.size w _:=HBz.out.trans (k3.below (B:=w.heap.size) HBz.out.size fun k hk e=>by have:=Hg.out;omega)
     have q0:=k1.cell 0;have q1:=k1.cell 1;have q2:=k1.cell 2;have q3:=k1.cell 3;have q4:=k1.cell 4;have q5:=k1.cell 5;have p0:=k2.cell 0;have p1:=k2.cell 1;have p2:=k2.cell 2;dsimp at q0 q1 q2 q3 q4 q5 p0 p1 p2
     refine bodyPost_ret (v:=.tuple #[.agg #[.slice none 0 0,.slice none 0 0,.slice none 0 0,.slice none 0 0,.int .i64 0,.int .i64 0],.agg #[.int .i64 er,.int .i64 ff,.int .i64 nn]]) ?_ rfl ⟨hbelow,.inl ⟨_,HBad.out,rfl⟩⟩;simp[results,Try.results21,go_sem,q0,q1,q2,q3,q4,q5,p0,p1,p2]
    |none=>
     have Hfp:=Lib.hid hfp;clear hfp;dsimp only[faultV];have Hgood:=Lib.hid (show Good p.plain from ⟨Hck0.out,Hfp.out⟩)
     obtain ⟨n,hn⟩:∃n,n=p.fs.length:=⟨_,rfl⟩;clear x0 x1 x2 xl hRl hEl;have x0:w3.cell? ⟨gx,0,none⟩=some (.int .i64 p.mem):=HBx3.out.cell 0;have x1:w3.cell? ⟨gx,1,none⟩=some (.slice p.AD p.data.length p.cD):=HBx3.out.cell 1;have x2:w3.cell? ⟨gx,2,none⟩=some (.slice p.AF p.fs.length p.cF):=HBx3.out.cell 2;have xl:=HBx3.out.lt;rw[←hn] at hmany x2;have Hn:=Lib.hid hn;clear hn hFl;obtain ⟨gX,hgX⟩:∃g,g=w3.heap.size+1:=⟨_,rfl⟩;obtain ⟨w5,hw5⟩:∃w5,w5=(w3.alloc (.cells #[.int .i64 0,.int .i64 0,.int .i64 0] 37)).alloc (.cells z6 32):=⟨_,rfl⟩;have hb35:Below w3.heap.size w3 w5:=by rw[hw5];exact ((Below.refl _ _).alloc (Nat.le_refl _) _).alloc (by simp) _
     have hX5:Blk w5 gX 32 z6:=by rw[hw5,hgX];exact Blk.new2 _ _ _ _
     have HX5:=Lib.hid hX5;have HBx5:=Lib.hid (HBx3.out.below hb35 HBx3.out.lt);have HBR5:=Lib.hid (HBR3.out.below hb35 HBR3.out.lt);have HBE5:=Lib.hid (HBE3.out.below hb35 HBE3.out.lt);have HB5:=Lib.hid (HB3.out.trans (hb35.mono HB3.out.size));have HP5:=Lib.hid (HP3.out.below hb35);have HgX:=Lib.hid (show w3.heap.size<gX∧gx<w3.heap.size∧gR<w3.heap.size∧gE<w3.heap.size∧w.heap.size≤w3.heap.size∧gX<w5.heap.size from ⟨by omega,HBx3.out.lt,HBR3.out.lt,HBE3.out.lt,HB3.out.size,hX5.lt⟩)
     have Hw5:=Lib.hid hw5;have HgXe:=Lib.hid hgX;have HzM:=Lib.hid (RunM.start w5 w.heap.size);clear hb35 hX5 hw5 hgX HBx2 HBR2 HBE2 HP2;go_upto_region 10 with (fail)
     rw[←Hw5.out, ←HgXe.out];have x05:w5.cell? ⟨gx,0,none⟩=some (.int .i64 p.mem):=HBx5.out.cell 0;have x25:w5.cell? ⟨gx,2,none⟩=some (.slice p.AF n p.cF):=by rw[Hn.out];exact HBx5.out.cell 2
     have xl5:=HBx5.out.lt;clear x0 x1 x2 xl Hw5 HgXe;go_wp2_with fail
     go_loopw [7] (fun i wr=>∃(f:Nat) (hs lps:List (List Int)) (tops:List Int) (HR LR:List (LG×List Value)) (AH:Option Addr) (cH:Nat) (AT:Option Addr) (cT:Nat) (AL:Option Addr) (cL:Nat),f≤n∧i= .int .i64 (f:Int)∧hs.length=f∧lps.length=f∧tops.length=f∧
      Hid (∀g:Nat,g<f→HFin p.plain g (hs.getD g [])∧TopF p.plain g (hs.getD g []) (tops.getD g 0)∧lps.getD g []=loopsL (nxF p.plain g) (p.plain.len g))∧RunM wr w.heap.size hs lps tops HR LR AH cH AT cT AL cL∧
      Blk wr gX 32 #[.slice AH f cH,.slice AT f cT,.slice AL f cL,.slice none 0 0,.int .i64 0,.int .i64 0]∧Only (fun k=>k=gX) w5 wr∧Hid ((∀k,AH.map (·.block)=some k→w5.heap.size≤k)∧(∀k,AT.map (·.block)=some k→w5.heap.size≤k)∧(∀k,AL.map (·.block)=some k→w5.heap.size≤k))) (fun i _=>n-(intOf i).toNat)
     case atStart=>exact ⟨0,[],[],[],[],[],none,0,none,0,none,0,Nat.zero_le _,rfl,rfl,rfl,rfl,Lib.hid (fun g h=>by omega),HzM.out,HX5.out,Only.refl _ _,Lib.hid ⟨fun k e=>(by cases e),fun k e=>(by cases e),fun k e=>(by cases e)⟩⟩
     rename World=>wr;clear HzM x05 x25 xl5;obtain ⟨f,hs,lps,tops,HR,LR,AH,cH,AT,cT,AL,cL,hfn,rfl,hhl,hll,htl,HInv,hM,hX,hB,HNew⟩:=hrel;have HM:=Lib.hid hM;have HX:=Lib.hid hX;have HB:=Lib.hid hB;have hgXx: ¬ gx=gX:=by have:=HgX.out;omega
     have hBxr:=HBx5.out.only hB hgXx;have HBxr:=Lib.hid hBxr;have hPr:PrgAt wr p:=HP.out.below (HB5.out.trans (hB.below (B:=w.heap.size) HB5.out.size fun k hk e=>by have:=HgX.out;omega))
     have HPr:=Lib.hid hPr;have Hhl:=Lib.hid hhl;have Hll:=Lib.hid hll;have Htl:=Lib.hid htl;have HBr:=Lib.hid (show Below w.heap.size w wr from HB5.out.trans (hB.below (B:=w.heap.size) HB5.out.size fun k hk e=>by have:=HgX.out;omega))
     by_cases hlt:f<n
     ·as_aux_lemma=>
      have g1:(f:Int)<(n:Int):=by omega
      have g1':(f:Int)<(p.fs.length:Int):=by have:=Hn.out;omega
      have x0:wr.cell? ⟨gx,0,none⟩=some (.int .i64 p.mem):=hBxr.cell 0;have x1:wr.cell? ⟨gx,1,none⟩=some (.slice p.AD p.data.length p.cD):=hBxr.cell 1;have x2:wr.cell? ⟨gx,2,none⟩=some (.slice p.AF p.fs.length p.cF):=hBxr.cell 2;have xl:=hBxr.lt;have HH:=Lib.hid (refHeights_any p f wr hPr Hgood.out (by rw[←Hn.out];exact hlt))
      clear hM hX hB hBxr hPr hhl hll htl;go_wp2_with fail
      refine HH.out.mono ?_;clear HH;rintro e w6 ⟨hb6,⟨h,A,c,hR,hhL,rfl,hO⟩|⟨er,nn,hR,her,rfl⟩⟩
      ·have hfP:f<p.plain.fs.length:=by have:=Hn.out;simp only[PrgM.plain,List.length_map];omega
       have hlen0:0<p.plain.len f:=by
        have h:=(good_fn Hck0.out (List.getElem_mem hfP)).c0;rw[Prg.len_of (List.getElem?_eq_getElem hfP)];omega
       have hFin:HFin p.plain f h:=runs_fin Hck0.out hlen0 hR;have hlen1:p.plain.len f≤4096:=good_len Hgood.out f;obtain ⟨N,hN⟩:∃N,N=h.length:=⟨_,rfl⟩;have HFin:=Lib.hid hFin;have HhL:=Lib.hid (show N=p.plain.len f from by rw[hN];exact hhL)
       have HNh:=Lib.hid hN;rw[←hN] at hO ⊢;have hN1:0<N∧N≤4096:=by omega
       have HBx6:=Lib.hid (HBxr.out.below hb6 HBxr.out.lt);have hM6:=HM.out.below hb6;have hX6:=HX.out.below hb6 HX.out.lt;obtain ⟨w7,hw7⟩:∃w7,w7=w6.alloc (.cells #[.int .i64 0,.int .i64 0,.int .i64 0] 37):=⟨_,rfl⟩;have hb67:Below w6.heap.size w6 w7:=by rw[hw7];exact (Below.refl _ _).alloc (Nat.le_refl _) _
       have hM7:=hM6.below hb67;have hX7:=hX6.below hb67 hX6.lt;have hO7:OwnI w7 wr.heap.size A N c h:=Own.below hO hb67 (Nat.le_refl _);have hltB:=HM.out.lt;have HltB:=Lib.hid hltB;have HM7:=Lib.hid hM7;have HX7:=Lib.hid hX7;have HO7:=Lib.hid hO7;have HB67:=Lib.hid (show Below wr.heap.size wr w7 from hb6.trans (hb67.mono hb6.size))
       have Hw7:=Lib.hid hw7;have a0:w7.cell? ⟨gX,0,none⟩=some (.slice AH f cH):=hX7.cell 0;have xl7:=hX7.lt;have hzz:w.heap.size≤wr.heap.size:=HBr.out.size;have Hzz:=Lib.hid hzz;clear hR hhL hN hO hb6 hM6 hX6 hb67 hM7 hX7 hO7 hltB hw7 hFin hlen0 hlen1 hzz;dsimp only[faultV];clear x0 x1 x2 xl;go_upto_region 16 with (fail)
       rw[←Hw7.out];go_wp2_with (refine wpList_at 70 rfl ?_;refine wp_stop ?_)
       try refine ⟨?_⟩
       obtain ⟨w8,hw8⟩:∃w8,w8=w7.alloc (.cells #[.slice A N c] 29):=⟨_,rfl⟩;rw[←hw8];have hb78:Below w7.heap.size w7 w8:=by rw[hw8];exact (Below.refl _ _).alloc (Nat.le_refl _) _
       have hU8:RV w8 (some ⟨w7.heap.size,0,none⟩) [.slice A N c]:=by rw[hw8];exact RV.of_blk (Blk.new w7 _ #[.slice A N c])
       have hM8:=HM7.out.below hb78;have hHl:HR.length=f:=by rw[hM8.lens.1];exact Hhl.out
       have hoh8:=hM8.oh;rw[hHl] at hoh8;have hO8:OwnI w8 wr.heap.size A N c h:=Own.below HO7.out hb78 (Nat.le_refl _);have hz8:w.heap.size≤w8.heap.size:=by have:=hb78.size;have:=HB67.out.size;have:=Hzz.out;omega
       refine wpList_app rfl (.tmp 67) (.tmp 69) eIRow rfl rfl hoh8 (m:=1) (c':=1) (us:=[.slice A N c]) rfl hU8 rfl (by intro v hv;simp only[List.mem_cons,List.not_mem_nil,or_false] at hv;subst hv;rfl) (by unfold maxLen;omega) (by omega) hz8 (by intro h;cases h) ?_
       intro A9 c9 w9 ho9 hg9 hA9
       have hM9:RunM w9 w.heap.size (hs++[h]) lps tops (HR++[(⟨A,h.length,c⟩,h.map iv)]) LR A9 c9 AT cT AL cL:=
        hM8.pushH (B2:=wr.heap.size) (by rw[←HNh.out];exact hO8) Hzz.out HltB.out.1 HltB.out.2.1 HltB.out.2.2 (by rw[hHl, ←HNh.out];exact ho9) hg9 hA9
       have hX9:Blk w9 gX 32 #[.slice AH f cH,.slice AT f cT,.slice AL f cL,.slice none 0 0,.int .i64 0,.int .i64 0]:=
        (HX7.out.below hb78 HX7.out.lt).grown hg9 fun e=>own_blk_ne hoh8 (HX7.out.below hb78 HX7.out.lt) (by decide) gX e.symm rfl
       have hO79:Only (fun k=>AH.map (·.block)=some k) w7 w9:=(Only.of_fresh hb78).trans (Only.of_grown hg9 fun k e=>e);have hx9:OwnI w9 wr.heap.size A N c h:=Own.only HO7.out hO79 (fun b o e e2=>ownG_ne HM7.out.oh HO7.out (by decide) b e2 (by rw[e];rfl))
       obtain ⟨w10,hw10⟩:∃w10,w10=w9.setCell ⟨gX,0,none⟩ (.slice A9 (f+1) c9):=⟨_,rfl⟩;have hO10:Only (fun k=>k=gX) w9 w10:=by rw[hw10];exact (Only.refl (fun k=>k=gX) w9).setCell (p:=⟨gX,0,none⟩) (.inl rfl) _
       have hM10:=hM9.one hX9 (by decide) (by decide) hO10
       have hX10:Blk w10 gX 32 #[.slice A9 (f+1) c9,.slice AT f cT,.slice AL f cL,.slice none 0 0,.int .i64 0,.int .i64 0]:=by rw[hw10];exact Blk.setL (cs:=[.slice AH f cH,.slice AT f cT,.slice AL f cL,.slice none 0 0,.int .i64 0,.int .i64 0]) hX9 0 _
       have hx10:OwnI w10 wr.heap.size A N c h:=Own.only hx9 hO10 (fun b o e e2=>own_blk_ne hx9 hX9 (by decide) b (by rw[e];rfl) e2)
       have HO710:=Lib.hid (show Only (fun k=>AH.map (·.block)=some k∨k=gX) w7 w10 from (hO79.mono fun k _ e=> .inl e).trans (hO10.mono fun k _ e=> .inr e))
       have HM10:=Lib.hid hM10
       have HNew9:=Lib.hid (show ∀k,A9.map (·.block)=some k→w5.heap.size≤k from fun k e=>by
        rcases hA9 with h|h
        ·rw[h] at e;exact HNew.out.1 k e
        rw[h] at e;have:k=w8.heap.size:=(Option.some.inj e).symm;have:=hb78.size;have:=HB67.out.size;have:=HB.out.size;omega)
       have HX10:=Lib.hid hX10;have Hx10:=Lib.hid hx10;have Hw10:=Lib.hid hw10;have b0:w9.cell? ⟨gX,0,none⟩=some (.slice AH f cH):=hX9.cell 0;have bf:=hX9.frozen 0;have bl:=hX9.lt;clear hw8 hb78 hU8 hM8 hHl hoh8 hO8 hz8 ho9 hg9 hA9 hM9 hX9 hO79 hx9 hO10 hM10 hX10 hx10 hw10 a0 xl7;clear w8;go_upto_region 17 with (fail)
       rw[←Hw10.out];clear Hw10 b0 bf bl;clear w9;have a1:w10.cell? ⟨gX,1,none⟩=some (.slice AT f cT):=HX10.out.cell 1;have xl10:=HX10.out.lt;have hBx7':=HBxr.out.below HB67.out HBxr.out.lt
       have hbw10:Below w.heap.size w w10:=HBr.out.trans ((HB67.out.mono HBr.out.size).trans (HO710.out.below (B:=w.heap.size) (Nat.le_trans HBr.out.size HB67.out.size) fun k hk e=>by
        rcases e with e|e
        ·have:=(Own.row HM7.out.oh k e).1;omega
        have:=HgX.out;omega))
       have hBx10:Blk w10 gx 26 #[.int .i64 p.mem,.slice p.AD p.data.length p.cD,.slice p.AF p.fs.length p.cF]:=hBx7'.only HO710.out fun e=>by
        rcases e with e|e
        ·exact own_blk_ne HM7.out.oh hBx7' (by decide) gx e rfl
        exact hgXx e
       have u0:w10.cell? ⟨gx,0,none⟩=some (.int .i64 p.mem):=hBx10.cell 0;have u1:w10.cell? ⟨gx,1,none⟩=some (.slice p.AD p.data.length p.cD):=hBx10.cell 1;have u2:w10.cell? ⟨gx,2,none⟩=some (.slice p.AF p.fs.length p.cF):=hBx10.cell 2;have ul:=hBx10.lt;have HTp:=Lib.hid (refTop_any p f N c A h w10.drew ((HP.out.below hbw10).below (Below.refl _ w10).drew) Hgood.out HFin.out (RV.of_own (Own.below Hx10.out ((Below.refl _ w10).drew) (Nat.le_refl _))) HNh.out.symm);clear hBx7' hbw10 hBx10;obtain ⟨SC,hSCd⟩:∃S:World→Prop,S=fun w'=>(w'.cell? ⟨gx,0,none⟩=some (.int .i64 p.mem)∧w'.cell? ⟨gx,1,none⟩=some (.slice p.AD p.data.length p.cD)∧w'.cell? ⟨gx,2,none⟩=some (.slice p.AF p.fs.length p.cF)∧gx<w'.heap.size)∧w'.cell? ⟨gX,1,none⟩=some (.slice AT f cT)∧gX<w'.heap.size:=⟨_,rfl⟩;have hSC:SC w10.drew:=by rw[hSCd];exact ⟨⟨u0,u1,u2,ul⟩,a1,xl10⟩
       have HSC:=Lib.hid (show SC w10.drew from hSC)
       have HSd:=Lib.hid hSCd;clear hSC hSCd;refine region_heldT 7 SC (by kernel_rfl) (by decide) ?_
       refine hwK 0 (.pointer (some ⟨gX,1,none⟩)) HSC.out ?_;simp only[Act.put,List.setIfInBounds_toArray];refine hwK 1 (.slice AT f cT) HSC.out ?_;simp only[Act.put];refine hwK 2 (.agg #[.int .i64 p.mem,.slice p.AD p.data.length p.cD,.slice p.AF p.fs.length p.cF]) HSC.out ?_;simp only[Act.put];refine hwK 3 (.int .i64 (f:Int)) HSC.out ?_;simp only[Act.put];refine hwK 4 (.slice A N c) HSC.out ?_;simp only[Act.put];refine hwO 5 fun K hK=>?_;go_simp;refine HTp.out.mono ?_;rintro e w10b ⟨⟨top,rfl,hTop⟩,hbt⟩;have HTop:=Lib.hid hTop;have hbt':Below w10.heap.size w10 w10b:=(Below.refl _ w10).drew.trans hbt
       have hSCa:SC w10b:=by
        rw[HSd.out];obtain ⟨hc,-⟩:=bcell hbt';have hz:=hbt'.size;exact ⟨⟨(hc _ _ ul).trans u0,(hc _ _ ul).trans u1,(hc _ _ ul).trans u2,by omega⟩,(hc _ _ xl10).trans a1,by omega⟩
       refine hK.out _ _ hSCa (fun hHeld=>?_);clear hK K hHeld hTop hbt
       have hSCb:SC (w10b.alloc (.cells #[.int .i64 top] 3)):=by
        rw[HSd.out];have hb:Below w10.heap.size w10 (w10b.alloc (.cells #[.int .i64 top] 3)):=hbt'.alloc hbt'.size _;obtain ⟨hc,-⟩:=bcell hb;have hz:=hb.size;exact ⟨⟨(hc _ _ ul).trans u0,(hc _ _ ul).trans u1,(hc _ _ ul).trans u2,by omega⟩,(hc _ _ xl10).trans a1,by omega⟩
       refine hwO 6 fun K hK=>?_;go_simp;refine hK.out _ _ hSCb (fun hHeld=>?_);clear hK K hHeld;refine fun _=>⟨by kernel_rfl,?_⟩
       simp only[List.drop_succ_cons,List.drop_zero];clear HSC HSd hSCa hSCb HTp u0 u1 u2 ul;clear SC;obtain ⟨w11,hw11⟩:∃w11,w11=w10b.alloc (.cells #[.int .i64 top] 3):=⟨_,rfl⟩;rw[←hw11];have hb11:Below w10.heap.size w10 w11:=by rw[hw11];exact hbt'.alloc hbt'.size _
       have hU11:RV w11 (some ⟨w10b.heap.size,0,none⟩) [.int .i64 top]:=by rw[hw11];exact RV.of_blk (Blk.new w10b _ #[.int .i64 top])
       clear hbt';have hM11:=HM10.out.below hb11;have hot11:=hM11.ot;rw[Htl.out] at hot11;have hz11:w.heap.size≤w11.heap.size:=by have:=hb11.size;have:=HO710.out.size;have:=HB67.out.size;have:=Hzz.out;omega
       refine wpList_app rfl (.tmp 73) (.tmp 78) eInt rfl rfl hot11 (m:=1) (c':=1) (us:=[.int .i64 top]) rfl hU11 rfl (by intro v hv;simp only[List.mem_cons,List.not_mem_nil,or_false] at hv;subst hv;rfl) (by unfold maxLen;omega) (by omega) hz11 (by intro h;cases h) ?_
       intro A12 c12 w12 ho12 hg12 hA12;have hM12:RunM w12 w.heap.size (hs++[h]) lps (tops++[top]) (HR++[(⟨A,h.length,c⟩,h.map iv)]) LR A9 c9 A12 c12 AL cL:=hM11.pushT (by rw[Htl.out];exact ho12) hg12 hA12
       have hX11:=HX10.out.below hb11 HX10.out.lt;have hX12:Blk w12 gX 32 #[.slice A9 (f+1) c9,.slice AT f cT,.slice AL f cL,.slice none 0 0,.int .i64 0,.int .i64 0]:=hX11.grown hg12 fun e=>own_blk_ne hot11 hX11 (by decide) gX e.symm rfl
       have hx12:OwnI w12 wr.heap.size A N c h:=by
        have hx11:OwnI w11 wr.heap.size A N c h:=Own.below Hx10.out hb11 (Nat.le_refl _)
        exact Own.only hx11 (Only.of_grown hg12 fun k e=>e) fun b o e e2=>by
         have h1:=(Own.row hx11 b (by rw[e];rfl)).1
         have h2:=HltB.out.2.2 b e2;omega
       obtain ⟨w13,hw13⟩:∃w13,w13=w12.setCell ⟨gX,1,none⟩ (.slice A12 (f+1) c12):=⟨_,rfl⟩;have hO13:Only (fun k=>k=gX) w12 w13:=by rw[hw13];exact (Only.refl (fun k=>k=gX) w12).setCell (p:=⟨gX,1,none⟩) (.inl rfl) _
       have hM13:=hM12.one hX12 (by decide) (by decide) hO13
       have hX13:Blk w13 gX 32 #[.slice A9 (f+1) c9,.slice A12 (f+1) c12,.slice AL f cL,.slice none 0 0,.int .i64 0,.int .i64 0]:=by rw[hw13];exact Blk.setL (cs:=[.slice A9 (f+1) c9,.slice AT f cT,.slice AL f cL,.slice none 0 0,.int .i64 0,.int .i64 0]) hX12 1 _
       have hx13:OwnI w13 wr.heap.size A N c h:=Own.only hx12 hO13 (fun b o e e2=>own_blk_ne hx12 hX12 (by decide) b (by rw[e];rfl) e2)
       have HO713:=Lib.hid (show Only (fun k=>AH.map (·.block)=some k∨AT.map (·.block)=some k∨k=gX) w7 w13 from (HO710.out.mono fun k _ e=>e.elim .inl fun e=> .inr (.inr e)).trans (((Only.of_fresh hb11).trans (Only.of_grown hg12 fun k e=> .inr (.inl e))).trans (hO13.mono fun k _ e=> .inr (.inr e))))
       have HM13:=Lib.hid hM13
       have HNew12:=Lib.hid (show ∀k,A12.map (·.block)=some k→w5.heap.size≤k from fun k e=>by
        rcases hA12 with h|h
        ·rw[h] at e;exact HNew.out.2.1 k e
        rw[h] at e;have:k=w11.heap.size:=(Option.some.inj e).symm;have:=hb11.size;have:=HO710.out.size;have:=HB67.out.size;have:=HB.out.size;omega)
       have HX13:=Lib.hid hX13;have Hx13:=Lib.hid hx13;have Hw13:=Lib.hid hw13;have b0:w12.cell? ⟨gX,1,none⟩=some (.slice AT f cT):=hX12.cell 1;have bf:=hX12.frozen 1;have bl:=hX12.lt;clear hw11 hb11 hU11 hM11 hot11 hz11 ho12 hg12 hA12 hM12 hX11 hX12 hx12 hO13 hM13 hX13 hx13 hw13 a1 xl10;clear w11;go_upto_region 18 with (fail)
       rw[←Hw13.out];clear Hw13 b0 bf bl;clear w12;have hBx7:=HBxr.out.below HB67.out HBxr.out.lt
       have hbw:Below w.heap.size w w13:=HBr.out.trans ((HB67.out.mono HBr.out.size).trans (HO713.out.below (B:=w.heap.size) (Nat.le_trans HBr.out.size HB67.out.size) fun k hk e=>by
        rcases e with e|e|e
        ·have:=(Own.row HM7.out.oh k e).1;omega
        ·have:=(Own.row HM7.out.ot k e).1;omega
        have:=HgX.out;omega))
       have hBx13:Blk w13 gx 26 #[.int .i64 p.mem,.slice p.AD p.data.length p.cD,.slice p.AF p.fs.length p.cF]:=hBx7.only HO713.out fun e=>by
        rcases e with e|e|e
        ·exact own_blk_ne HM7.out.oh hBx7 (by decide) gx e rfl
        ·exact own_blk_ne HM7.out.ot hBx7 (by decide) gx e rfl
        exact hgXx e
       have x0:w13.cell? ⟨gx,0,none⟩=some (.int .i64 p.mem):=hBx13.cell 0;have x1:w13.cell? ⟨gx,1,none⟩=some (.slice p.AD p.data.length p.cD):=hBx13.cell 1;have x2:w13.cell? ⟨gx,2,none⟩=some (.slice p.AF p.fs.length p.cF):=hBx13.cell 2;have xl:=hBx13.lt;have a2:w13.cell? ⟨gX,2,none⟩=some (.slice AL f cL):=HX13.out.cell 2;have al:=HX13.out.lt;obtain ⟨L,hL⟩:∃L,L=loopsL (nxF p.plain f) N:=⟨_,rfl⟩;have HL:=Lib.hid hL;have HPw:=Lib.hid (HP.out.below hbw);have HBx13:=Lib.hid hBx13;clear hL hBx7 hbw hBx13;go_wp2_with fail
       go_loopw [10,11] (fun rv iv' wz=>∃(j:Nat) (A2:Option Addr) (T:List Int) (c2:Nat),j≤N∧iv'= .int .i64 (j:Int)∧rv= .slice A2 T.length c2∧OwnI wz w13.heap.size A2 T.length c2 T∧Hid (T=loopsL (nxF p.plain f) j)∧Below w13.heap.size w13 wz) (fun _ i _=>N-(intOf i).toNat)
       case atStart=>exact ⟨0,none,[],0,Nat.zero_le _,rfl,rfl,Own.nil _ _ _ _,Lib.hid rfl,Below.refl _ _⟩
       case round=>
       rename World=>w14;obtain ⟨j,A14,T,c14,hj,rfl,rfl,hT14,HT14,hB14⟩:=hrel;by_cases hjt:j<N
       ·as_aux_lemma=>
        have gj:(j:Int)<(N:Int):=by omega
        have hh14:OwnI w14 wr.heap.size A N c h:=Own.below Hx13.out hB14 (Nat.le_refl _);obtain ⟨ga,hAe,-,hal⟩:=own_some hh14 (by omega)
        subst hAe;obtain ⟨x,hx⟩:∃x,h[j]?=some x:=⟨_,List.getElem?_eq_getElem (by rw[←HNh.out];exact hjt)⟩
        have cx:=OwnI.at_ hh14 j (by rw[←HNh.out];exact hjt)
        rw[(List.getElem?_eq_some_iff.1 hx).2] at cx;have hiff:=HFin.out.iff Hck0.out hx;have hTl:T.length≤j:=by rw[HT14.out];exact loopsL_len
        have HB14:=Lib.hid hB14;have HT14o:=Lib.hid hT14;have hBx14:=HBx13.out.below hB14 HBx13.out.lt;have y0:w14.cell? ⟨gx,0,none⟩=some (.int .i64 p.mem):=hBx14.cell 0;have y1:w14.cell? ⟨gx,1,none⟩=some (.slice p.AD p.data.length p.cD):=hBx14.cell 1;have y2:w14.cell? ⟨gx,2,none⟩=some (.slice p.AF p.fs.length p.cF):=hBx14.cell 2;have yl:=hBx14.lt;have Hcm:=Lib.hid (comes_any p f j N w14 (HPw.out.below hB14) Hgood.out (by have:=Hn.out;omega) HhL.out.symm)
        have Hiff:=Lib.hid hiff;clear hh14 hx hiff hB14 hT14 hBx14 x0 x1 x2 xl a2 al;by_cases hx1:x= -1
        ·subst hx1;have HT2:=Lib.hid (show T=loopsL (nxF p.plain f) (j+1) from by rw[loopsL_no (fun h=>absurd rfl (Hiff.out.2 h.1))];exact HT14.out)
         go_wp2_with fail
         exact ⟨⟨j+1,A14,T,c14,by omega,by go_num,rfl,HT14o.out,HT2,HB14.out⟩,by simp[intOf];omega⟩
        have hx2:(x== -1)=false:=by simpa using hx1
        have hx3:(x != -1)=true:=by simpa using hx1
        go_wp2_with fail
        refine Hcm.out.mono ?_;rintro e w15 ⟨⟨bb,rfl,hbb⟩,hb15⟩;have HB15:=Lib.hid (HB14.out.trans (hb15.mono HB14.out.size));have HO15:=Lib.hid (show OwnI w15 w13.heap.size A14 T.length c14 T from Own.below HT14o.out hb15 (Nat.le_refl _))
        clear hb15 y0 y1 y2 yl Hcm;cases bb with
        |true=>
         have HT2:=Lib.hid (show T++[(j:Int)]=loopsL (nxF p.plain f) (j+1) from by rw[loopsL_yes ⟨Hiff.out.1 hx1,hbb.1 rfl⟩, ←HT14.out])
         have hz15:=HB15.out.size;clear hbb;go_wp2_with (refine wpList_at 101 rfl ?_;refine wp_stop ?_)
         try refine ⟨?_⟩
         refine wpList_push1 rfl (.tmp 98) (.tmp 100) eInt rfl rfl HO15.out rfl rfl (by unfold maxLen;omega) (by omega) (by omega) ?_
         intro A6 c6 w16 hown6 hO6;have HO6:=Lib.hid (show OwnI w16 w13.heap.size A6 (T++[(j:Int)]).length c6 (T++[(j:Int)]) from OwnI.push hown6)
         have HB6:=Lib.hid (HB15.out.trans (hO6.below (by omega) (fun q hq e=>by have:=(Own.row HO15.out q e).1;omega)))
         clear hown6 hO6;go_wp2_with fail
         exact ⟨⟨j+1,A6,T++[(j:Int)],c6,by omega,by go_num,by rw[List.length_append];rfl,HO6.out,HT2,HB6.out⟩,by simp[intOf];omega⟩
        |false=>
         have HT2:=Lib.hid (show T=loopsL (nxF p.plain f) (j+1) from by rw[loopsL_no (fun h=>absurd (hbb.2 h.2) (by decide))];exact HT14.out)
         clear hbb;go_wp2_with fail
         exact ⟨⟨j+1,A14,T,c14,by omega,by go_num,rfl,HO15.out,HT2,HB15.out⟩,by simp[intOf];omega⟩
       obtain rfl:j=N:=by omega
       obtain rfl:T=L:=HT14.out.trans HL.out.symm;have hbm14:=hB14;have m2:w14.cell? ⟨gX,2,none⟩=some (.slice AL f cL):=by rw[(bcell hbm14).1 _ _ al];exact a2
       have ml:gX<w14.heap.size:=by have:=hbm14.size;omega
       have HO14:=Lib.hid hT14;have HB14:=Lib.hid hB14;clear hT14 hB14 hbm14;go_wp2_with (refine wpList_at 106 rfl ?_;refine wp_stop ?_)
       try refine ⟨?_⟩
       clear m2 ml;obtain ⟨w15,hw15⟩:∃w15,w15=w14.alloc (.cells #[.slice A14 T.length c14] 29):=⟨_,rfl⟩;rw[←hw15];have hb15:Below w14.heap.size w14 w15:=by rw[hw15];exact (Below.refl _ _).alloc (Nat.le_refl _) _
       have hU15:RV w15 (some ⟨w14.heap.size,0,none⟩) [.slice A14 T.length c14]:=by rw[hw15];exact RV.of_blk (Blk.new w14 _ #[.slice A14 T.length c14])
       have hM15:=(HM13.out.below HB14.out).below hb15;have hX15:=(HX13.out.below HB14.out HX13.out.lt).below hb15 (HX13.out.below HB14.out HX13.out.lt).lt;have hLl:LR.length=f:=by rw[hM15.lens.2];exact Hll.out
       have hol15:=hM15.ol;rw[hLl] at hol15;have hO15:OwnI w15 w13.heap.size A14 T.length c14 T:=Own.below HO14.out hb15 (Nat.le_refl _);have hz13:w.heap.size≤w13.heap.size:=by have:=HO713.out.size;have:=HB67.out.size;have:=Hzz.out;omega
       have hz15:w.heap.size≤w15.heap.size:=by have:=hb15.size;have:=HB14.out.size;omega
       refine wpList_app rfl (.tmp 103) (.tmp 105) eIRow rfl rfl hol15 (m:=1) (c':=1) (us:=[.slice A14 T.length c14]) rfl hU15 rfl (by intro v hv;simp only[List.mem_cons,List.not_mem_nil,or_false] at hv;subst hv;rfl) (by unfold maxLen;omega) (by omega) hz15 (by intro h;cases h) ?_
       intro A16 c16 w16 ho16 hg16 hA16;have hlt13:=HM13.out.lt
       have hM16:RunM w16 w.heap.size (hs++[h]) (lps++[T]) (tops++[top]) (HR++[(⟨A,h.length,c⟩,h.map iv)]) (LR++[(⟨A14,T.length,c14⟩,T.map iv)]) A9 c9 A12 c12 A16 c16:=
        hM15.pushL (B2:=w13.heap.size) hO15 hz13 hlt13.1 hlt13.2.1 hlt13.2.2 (by rw[hLl];exact ho16) hg16 hA16
       have hX16:Blk w16 gX 32 #[.slice A9 (f+1) c9,.slice A12 (f+1) c12,.slice AL f cL,.slice none 0 0,.int .i64 0,.int .i64 0]:=hX15.grown hg16 fun e=>own_blk_ne hol15 hX15 (by decide) gX e.symm rfl
       have a16:w16.cell? ⟨gX,2,none⟩=some (.slice AL f cL):=hX16.cell 2;have af16:=hX16.frozen 2;have al16:=hX16.lt;obtain ⟨w17,hw17⟩:∃w17,w17=w16.setCell ⟨gX,2,none⟩ (.slice A16 (f+1) c16):=⟨_,rfl⟩;have hO17:Only (fun k=>k=gX) w16 w17:=by rw[hw17];exact (Only.refl (fun k=>k=gX) w16).setCell (p:=⟨gX,2,none⟩) (.inl rfl) _
       have hM17:=hM16.one hX16 (by decide) (by decide) hO17
       have hX17:Blk w17 gX 32 #[.slice A9 (f+1) c9,.slice A12 (f+1) c12,.slice A16 (f+1) c16,.slice none 0 0,.int .i64 0,.int .i64 0]:=by rw[hw17];exact Blk.setL (cs:=[.slice A9 (f+1) c9,.slice A12 (f+1) c12,.slice AL f cL,.slice none 0 0,.int .i64 0,.int .i64 0]) hX16 2 _
       have hO5:Only (fun k=>k=gX) w5 w17:=by
        have e1:Only (fun k=>AH.map (·.block)=some k∨AT.map (·.block)=some k∨AL.map (·.block)=some k∨k=gX) wr w17:=by
         refine (Only.of_fresh HB67.out).trans ((HO713.out.mono fun k _ e=>by rcases e with e|e|e<;>simp[e]).trans (((Only.of_fresh HB14.out).trans (Only.of_fresh hb15)).trans ((Only.of_grown hg16 fun k e=> .inr (.inr (.inl e))).trans (hO17.mono fun k _ e=> .inr (.inr (.inr e))))))
        refine HB.out.more e1 fun k hk e=>?_;rcases e with e|e|e|e
        ·exact absurd (HNew.out.1 k e) (by omega)
        ·exact absurd (HNew.out.2.1 k e) (by omega)
        ·exact absurd (HNew.out.2.2 k e) (by omega)
        exact e
       have HM17:=Lib.hid hM17;have HX17:=Lib.hid hX17;have HO5:=Lib.hid hO5;have Hw17:=Lib.hid hw17
       have HNew17:=Lib.hid (show (∀k,A9.map (·.block)=some k→w5.heap.size≤k)∧(∀k,A12.map (·.block)=some k→w5.heap.size≤k)∧(∀k,A16.map (·.block)=some k→w5.heap.size≤k) from ⟨HNew9.out,HNew12.out,fun k e=>by
        rcases hA16 with h|h
        ·rw[h] at e;exact HNew.out.2.2 k e
        rw[h] at e;have:k=w15.heap.size:=(Option.some.inj e).symm;have:=hb15.size;have:=HB14.out.size;have:=HO713.out.size;have:=HB67.out.size;have:=HB.out.size;omega⟩)
       clear hw15 hb15 hU15 hM15 hX15 hLl hol15 hO15 hz13 hz15 ho16 hg16 hA16 hlt13 hM16 hX16 hO17 hM17 hX17 hO5 hw17 x0 x1 x2 xl a2 al;clear w15;go_wp2_with fail
       rw[←Hw17.out];refine ⟨⟨f+1,hs++[h],lps++[T],tops++[top],_,_,A9,c9,A12,c12,A16,c16,by omega,rfl,by rw[List.length_append,Hhl.out];rfl,by rw[List.length_append,Hll.out];rfl,by rw[List.length_append,Htl.out];rfl,Lib.hid (fun g hg=>?_),HM17.out,HX17.out,HO5.out,HNew17⟩,?_⟩
       ·by_cases e:g=f
        ·subst e;have e1:(hs++[h]).getD g []=h:=by rw[List.getD_eq_getElem?_getD,List.getElem?_append_right (by rw[Hhl.out];exact Nat.le_refl _),Hhl.out,Nat.sub_self];rfl
         have e2:(tops++[top]).getD g 0=top:=by rw[List.getD_eq_getElem?_getD,List.getElem?_append_right (by rw[Htl.out];exact Nat.le_refl _),Htl.out,Nat.sub_self];rfl
         have e3:(lps++[T]).getD g []=T:=by rw[List.getD_eq_getElem?_getD,List.getElem?_append_right (by rw[Hll.out];exact Nat.le_refl _),Hll.out,Nat.sub_self];rfl
         rw[e1,e2,e3];exact ⟨HFin.out,HTop.out,by rw[HL.out,HhL.out]⟩
        have hg2:g<f:=by omega
        have e1:(hs++[h]).getD g []=hs.getD g []:=by rw[List.getD_eq_getElem?_getD,List.getD_eq_getElem?_getD,List.getElem?_append_left (by rw[Hhl.out];exact hg2)]
        have e2:(tops++[top]).getD g 0=tops.getD g 0:=by rw[List.getD_eq_getElem?_getD,List.getD_eq_getElem?_getD,List.getElem?_append_left (by rw[Htl.out];exact hg2)]
        have e3:(lps++[T]).getD g []=lps.getD g []:=by rw[List.getD_eq_getElem?_getD,List.getD_eq_getElem?_getD,List.getElem?_append_left (by rw[Hll.out];exact hg2)]
        rw[e1,e2,e3];exact HInv.out g hg2
       simp[intOf];omega
      have HBx6:=Lib.hid (HBxr.out.below hb6 HBxr.out.lt);have her2:(er != 0)=true:=by simpa using her
      have HBad:=Lib.hid (show BadAt p.plain (er,(f:Int),(nn:Int)) from .inr (.inr (.inr ⟨HLead.out,Hfp.out,f,nn,er,by have:=Hn.out;simp only[PrgM.plain,List.length_map];omega,fun g hg=>⟨_,(HInv.out g hg).1⟩,hR,her,rfl⟩)))
      have hgRX: ¬ gR=gX:=by have:=HgX.out;omega
      have hgEX: ¬ gE=gX:=by have:=HgX.out;omega
      have hBR6:=(HBR5.out.only HB.out hgRX).below hb6 (HBR5.out.only HB.out hgRX).lt;have hBE6:=(HBE5.out.only HB.out hgEX).below hb6 (HBE5.out.only HB.out hgEX).lt;obtain ⟨gF,hgF⟩:∃g,g=w6.heap.size:=⟨_,rfl⟩;obtain ⟨w7,hw7⟩:∃w7,w7=w6.alloc (.cells #[.int .i64 er,.int .i64 (f:Int),.int .i64 (nn:Int)] 37):=⟨_,rfl⟩;have HBF:=Lib.hid (show Blk w7 gF 37 #[.int .i64 er,.int .i64 (f:Int),.int .i64 (nn:Int)] from by rw[hw7,hgF];exact Blk.new _ _ _)
      have HBRz:=Lib.hid (show Blk w7 gR 32 z6 from by rw[hw7];exact hBR6.alloc _)
      have HBEz:=Lib.hid (show Blk w7 gE 37 #[.int .i64 0,.int .i64 0,.int .i64 0] from by rw[hw7];exact hBE6.alloc _)
      have HBz:=Lib.hid (show Below w.heap.size w w7 from by rw[hw7];exact (HBr.out.trans (hb6.mono HBr.out.size)).alloc (Nat.le_trans HBr.out.size hb6.size) _)
      have hFR:gF≠gR:=by have:=hBR6.lt;omega
      have hFE:gF≠gE:=by have:=hBE6.lt;omega
      dsimp only[faultV];have Hw7:=Lib.hid hw7;have HgF:=Lib.hid hgF;clear hw7 hgF hBR6 hBE6 hR her hb6 x0 x1 x2 xl;go_upto_region 15 with (fail)
      rw[←Hw7.out, ←HgF.out];have f0:w7.cell? ⟨gF,0,none⟩=some (.int .i64 er):=HBF.out.cell 0;have f1:w7.cell? ⟨gF,1,none⟩=some (.int .i64 (f:Int)):=HBF.out.cell 1;have f2:w7.cell? ⟨gF,2,none⟩=some (.int .i64 (nn:Int)):=HBF.out.cell 2;have fl:=HBF.out.lt;obtain ⟨SC,hSCd⟩:∃S:World→Prop,S=fun w'=>(w'.cell? ⟨gF,0,none⟩=some (.int .i64 er)∧w'.cell? ⟨gF,1,none⟩=some (.int .i64 (f:Int))∧w'.cell? ⟨gF,2,none⟩=some (.int .i64 (nn:Int))∧gF<w'.heap.size):=⟨_,rfl⟩;have hSC:SC w7.drew:=by rw[hSCd];exact ⟨f0,f1,f2,fl⟩
      have HSC:=Lib.hid (show SC w7.drew from hSC)
      have HSd:=Lib.hid hSCd;clear hSC hSCd;refine region_heldT 4 SC (by kernel_rfl) (by decide) ?_
      refine hwA 0 (.agg #[.slice none 0 0,.slice none 0 0,.slice none 0 0,.slice none 0 0,.int .i64 0,.int .i64 0]) HSC.out ?_;refine hwA 1 (.agg #[.int .i64 er,.int .i64 (f:Int),.int .i64 (nn:Int)]) HSC.out ?_;simp only[Act.put,List.getElem_toArray,List.getElem_cons_succ,List.getElem_cons_zero,List.setIfInBounds_toArray,List.set_cons_succ,List.set_cons_zero];refine hwO 2 fun K hK=>?_;refine op_storeB 32 (.tmp 2) (.tmp 64) rfl [.slice none 0 0,.slice none 0 0,.slice none 0 0,.slice none 0 0,.int .i64 0,.int .i64 0] rfl rfl HBRz.out.drew size_facts rfl (by intro v hv;simp only[List.mem_cons,List.not_mem_nil,or_false] at hv;rcases hv with rfl|rfl|rfl|rfl|rfl|rfl<;>rfl) ?_
      intro wy hRy hOR hzR;refine hK.out _ _ (by rw[HSd.out];exact ⟨(hOR.cell (p:=⟨gF,0,none⟩) fl hFR).trans f0,(hOR.cell (p:=⟨gF,1,none⟩) fl hFR).trans f1,(hOR.cell (p:=⟨gF,2,none⟩) fl hFR).trans f2,Nat.lt_of_lt_of_le fl hOR.size⟩) (fun hHeld=>?_)
      clear hK K hHeld;have hEy:=HBEz.out.drew.only hOR (fun e=>hER e);refine hwO 3 fun K hK=>?_;refine op_storeB 37 (.tmp 3) (.tmp 65) rfl [.int .i64 er,.int .i64 (f:Int),.int .i64 (nn:Int)] rfl rfl hEy size_fault rfl (by intro v hv;simp only[List.mem_cons,List.not_mem_nil,or_false] at hv;rcases hv with rfl|rfl|rfl<;>rfl) ?_
      intro wf k2 hOE hzE;have k3:Only (fun k=>k=gR∨k=gE) w7 wf:=((Only.refl (fun k=>k=gR∨k=gE) w7).drew.trans (hOR.mono fun k _ e=> .inl e)).trans (hOE.mono fun k _ e=> .inr e);have hnF: ¬ (gF=gR∨gF=gE):=fun e=>e.elim hFR hFE;refine hK.out _ _ (by rw[HSd.out];exact ⟨(k3.cell (p:=⟨gF,0,none⟩) fl hnF).trans f0,(k3.cell (p:=⟨gF,1,none⟩) fl hnF).trans f1,(k3.cell (p:=⟨gF,2,none⟩) fl hnF).trans f2,Nat.lt_of_lt_of_le fl k3.size⟩) (fun hHeld=>?_)
      clear hK K hHeld;refine fun _=>⟨by kernel_rfl,?_⟩
      simp only[List.drop_succ_cons,List.drop_zero];clear HSC HSd f0 f1 f2 fl;clear SC;have k1:=hRy.only hOE (fun e=>hRE e);clear hRy hOR hzR hEy hOE hzE hnF;go_wp2_with fail
      have hbelow:Below w.heap.size w _:=HBz.out.trans (k3.below (B:=w.heap.size) HBz.out.size fun k hk e=>by have:=Hg.out;omega)
      have q0:=k1.cell 0;have q1:=k1.cell 1;have q2:=k1.cell 2;have q3:=k1.cell 3;have q4:=k1.cell 4;have q5:=k1.cell 5;have p0:=k2.cell 0;have p1:=k2.cell 1;have p2:=k2.cell 2;dsimp at q0 q1 q2 q3 q4 q5 p0 p1 p2
      refine bodyPost_ret (v:=.tuple #[.agg #[.slice none 0 0,.slice none 0 0,.slice none 0 0,.slice none 0 0,.int .i64 0,.int .i64 0],.agg #[.int .i64 er,.int .i64 (f:Int),.int .i64 (nn:Int)]]) ?_ rfl ⟨hbelow,.inl ⟨_,HBad.out,rfl⟩⟩;simp[results,Try.results21,go_sem,q0,q1,q2,q3,q4,q5,p0,p1,p2]
     as_aux_lemma=>
     obtain rfl:f=n:=by omega
     have hnP:p.plain.fs.length=f:=by rw[Hn.out];simp[PrgM.plain]
     have hgood:=Hgood.out;have hlenF:∀g,g<f→(hs.getD g []).length=p.plain.len g:=fun g hg=>(HInv.out g hg).1.len
     have hWF:WhF p.plain hs tops:=by
      refine ⟨by rw[hhl,hnP],fun g hg=>hlenF g (by omega),fun g j=>?_,by rw[htl,hnP],fun x hx=>?_⟩
      ·unfold htAt;by_cases hg:g<f
       ·rw[List.getD_eq_getElem?_getD (l:=hs.getD g [])];cases hx:(hs.getD g [])[j]? with
        |none=>simp
        |some x=>exact (HInv.out g hg).1.bnd j x hx
       rw[List.getD_eq_getElem?_getD (l:=hs),List.getElem?_eq_none (by omega)]
       simp
      obtain ⟨g,hg,rfl⟩:=List.getElem_of_mem hx;have hgf:g<f:=by omega
      have h:=HInv.out g hgf;rw[getD_get (d:=(0:Int)) hg] at h;exact top_bnd Hck0.out h.1 h.2.1
     have hlpF:∀g,g<f→((lps.getD g []).length=0↔∀v,Reach (nxF p.plain g) 0 v→¬ Cyc (nxF p.plain g) v):=by
      intro g hg;rw[(HInv.out g hg).2.2];refine loops_none _ _ fun v hv=>?_;obtain ⟨x,hx,-⟩:=(HInv.out g hg).1.reach Hck0.out hv;rw[←(HInv.out g hg).1.len];exact (List.getElem?_eq_some_iff.1 hx).1
     have HWF:=Lib.hid hWF;have HlpF:=Lib.hid hlpF;have HnP:=Lib.hid hnP;have hgRX: ¬ gR=gX:=by have:=HgX.out;omega
     have hgEX: ¬ gE=gX:=by have:=HgX.out;omega
     have HBRr:=Lib.hid (HBR5.out.only hB hgRX);have HBEr:=Lib.hid (HBE5.out.only hB hgEX);have Hrch:=Lib.hid (fun (q:Nat) (hq:q<f) (w':World) (hb:Below wr.heap.size wr w')=>reached_any p hs q f cH AH w' (hPr.below hb) hgood Hn.out.symm hq (fun g hg=>(HInv.out g hg).1) hhl ((hM.hrows (by omega)).below hb))
     have hpv:p.val= .agg #[.int .i64 p.mem,.slice p.AD p.data.length p.cD,.slice p.AF f p.cF]:=by rw[Hn.out]
     rw[hpv] at Hrch;have x0:wr.cell? ⟨gx,0,none⟩=some (.int .i64 p.mem):=hBxr.cell 0;have x1:wr.cell? ⟨gx,1,none⟩=some (.slice p.AD p.data.length p.cD):=hBxr.cell 1;have x2:wr.cell? ⟨gx,2,none⟩=some (.slice p.AF f p.cF):=by rw[Hn.out];exact hBxr.cell 2
     have xl:=hBxr.lt;have a0:wr.cell? ⟨gX,0,none⟩=some (.slice AH f cH):=hX.cell 0;have al:=hX.lt;have Hhl:=Lib.hid hhl;have Hll:=Lib.hid hll;have Htl:=Lib.hid htl;have g2: ¬ (f:Int)<(f:Int):=by omega
     have hf0:0<f:=hmany.1;clear hM hX hB hPr hgood hlenF hWF hlpF hnP hpv hhl hll htl;go_wp2_with fail
     refine (Hrch.out 0 hf0 wr (Below.refl _ _)).mono ?_;rintro e w9 ⟨gL,seen,rfl,hL9,hsl,hseen,hb9⟩;have hBx9:=hBxr.below hb9 hBxr.lt;have hX9:=HX.out.below hb9 HX.out.lt;have hM9:=HM.out.below hb9;have c0:=OwnL.at_ hL9 0 (by omega)
     obtain ⟨cf0,cl0⟩:=OwnL.room hL9 0 (by omega)
     generalize seen[0]'(by omega)=y0 at c0
     have hgL:wr.heap.size≤gL:=(Own.row hL9 gL rfl).1;have hLX:gL≠gX:=by have:=HX.out.lt;omega
     have b0:w9.cell? ⟨gX,3,none⟩=some (.slice none 0 0):=hX9.cell 3;have bf:=hX9.frozen 3;have bl:=hX9.lt;obtain ⟨w10,hw10⟩:∃w',w'=(w9.setCell ⟨gX,3,none⟩ (.slice (some ⟨gL,0,none⟩) f f)).setCell ⟨gL,0,none⟩ (.bool true):=⟨_,rfl⟩;have hO10:Only (fun k=>k=gX∨k=gL) w9 w10:=by rw[hw10];exact ((Only.refl (fun k=>k=gX∨k=gL) w9).setCell (p:=⟨gX,3,none⟩) (.inl (.inl rfl)) _).setCell (p:=⟨gL,0,none⟩) (.inl (.inr rfl)) _
     have hX10:Blk w10 gX 32 #[.slice AH f cH,.slice AT f cT,.slice AL f cL,.slice (some ⟨gL,0,none⟩) f f,.int .i64 0,.int .i64 0]:=by
      rw[hw10];exact (Blk.setL (cs:=[.slice AH f cH,.slice AT f cT,.slice AL f cL,.slice none 0 0,.int .i64 0,.int .i64 0]) hX9 3 _).far (p:=⟨gL,0,none⟩) hLX.symm _
     have hL10:OwnL w10 wr.heap.size (some ⟨gL,0,none⟩) f f (seen.set 0 true):=by
      rw[hw10];exact OwnL.put (Own.fars hL9 (fun e=>by injection e with e;exact hLX e) _) 0 true
     have hM10:RunM w10 w.heap.size hs lps tops HR LR AH cH AT cT AL cL:=hM9.keep hO10
      (fun q hq b e e2=>e2.elim (own_blk_ne (hM9.sh.own q hq) hX9 (by decide) b e) (fun e2=>own_ne (hM9.sh.own q hq) hL9 (by decide) b e (by rw[e2];rfl)))
      (fun q hq b e e2=>e2.elim (own_blk_ne (hM9.sl.own q hq) hX9 (by decide) b e) (fun e2=>own_ne (hM9.sl.own q hq) hL9 (by decide) b e (by rw[e2];rfl)))
      (fun b e e2=>e2.elim (own_blk_ne hM9.oh hX9 (by decide) b e) (fun e2=>own_ne hM9.oh hL9 (by decide) b e (by rw[e2];rfl)))
      (fun b e e2=>e2.elim (own_blk_ne hM9.ol hX9 (by decide) b e) (fun e2=>own_ne hM9.ol hL9 (by decide) b e (by rw[e2];rfl)))
      (fun b e e2=>e2.elim (own_blk_ne hM9.ot hX9 (by decide) b e) (fun e2=>own_ne hM9.ot hL9 (by decide) b e (by rw[e2];rfl)))
     have hgxL: ¬ (gx=gX∨gx=gL):=fun e=>e.elim hgXx (fun e=>by have:=hBxr.lt;omega)
     have hBx10:=hBx9.only hO10 hgxL;obtain ⟨live,hlive⟩:∃l,l=seen.set 0 true:=⟨_,rfl⟩;rw[←hlive] at hL10;have hlvl:live.length=f:=by rw[hlive,List.length_set];exact hsl
     have hlv:∀v:Nat,live[v]?=some true↔Reach (cg p.plain hs) 0 v:=fun v=>by
      rw[hlive];by_cases e:v=0
      ·subst e;rw[List.getElem?_set_self (by omega)]
       exact ⟨fun _=> .refl 0,fun _=>rfl⟩
      rw[List.getElem?_set_ne (Ne.symm e),hseen];constructor
      ·rintro ⟨s,hs1,hs2⟩;exact .step hs1 hs2
      intro h;cases h with
      |refl=>exact absurd rfl e
      |step h1 h2=>exact ⟨_,h1,h2⟩
     have HX10:=Lib.hid hX10;have HL10:=Lib.hid hL10;have HM10:=Lib.hid hM10;have HBx10:=Lib.hid hBx10;have Hlv:=Lib.hid hlv;have Hlvl:=Lib.hid hlvl;have HO10:=Lib.hid (show Only (fun k=>k=gX) wr w10 from ((Only.of_fresh (S:=fun k=>k=gX∨k=gL) hb9).trans hO10).mono (fun k hk e=>e.elim id (fun e=>by omega)))
     have Hw10:=Lib.hid hw10;have HgL:=Lib.hid hgL;clear hBx9 hX9 hM9 hO10 hX10 hL10 hM10 hgxL hBx10 hlive hlvl hlv hsl hseen hL9 hw10;go_upto_region 27 with (fail)
     rw[←Hw10.out];have hP10:PrgAt w10 p:=HP.out.below (HBr.out.trans (HO10.out.below (B:=w.heap.size) HBr.out.size fun k hk e=>by have:=HgX.out;omega))
     have Hrch2:=Lib.hid (fun (q:Nat) (hq:q<f) (w':World) (hb:Below w10.heap.size w10 w')=>reached_any p hs q f cH AH w' (hP10.below hb) Hgood.out Hn.out.symm hq (fun g hg=>(HInv.out g hg).1) Hhl.out ((HM10.out.hrows (by rw[Hhl.out];exact hf0)).below hb))
     have hpv:p.val= .agg #[.int .i64 p.mem,.slice p.AD p.data.length p.cD,.slice p.AF f p.cF]:=by rw[Hn.out]
     rw[hpv] at Hrch2;have HP10:=Lib.hid hP10;clear hP10 hpv Hrch x0 x1 x2 xl a0 al c0 cf0 cl0 b0 bf bl Hw10;go_wp2_with fail
     go_loopw [12,13,14] (fun bv sv qv wz=>∃(q:Nat) (bd st:Bool),q≤f∧qv= .int .i64 (q:Int)∧bv= .bool bd∧sv= .bool st∧Hid ((bd=true↔∀g,g<q→Reach (cg p.plain hs) 0 g→¬ Cyc (cg p.plain hs) g)∧(st=true↔∀g,g<q→Reach (cg p.plain hs) 0 g→(lps.getD g []).length=0))∧Below w10.heap.size w10 wz) (fun _ _ q _=>f-(intOf q).toNat)
     case atStart=>exact ⟨0,true,true,Nat.zero_le _,rfl,rfl,rfl,Lib.hid ⟨⟨fun _ g hg=>by omega,fun _=>rfl⟩,⟨fun _ g hg=>by omega,fun _=>rfl⟩⟩,Below.refl _ _⟩
     case round=>
     rename World=>wz;obtain ⟨q,bd,st,hq,rfl,rfl,rfl,HBS,hBz⟩:=hrel;have HBz:=Lib.hid hBz;have hXz:=HX10.out.below hBz HX10.out.lt;have hBxz:=HBx10.out.below hBz HBx10.out.lt;have x0:wz.cell? ⟨gx,0,none⟩=some (.int .i64 p.mem):=hBxz.cell 0;have x1:wz.cell? ⟨gx,1,none⟩=some (.slice p.AD p.data.length p.cD):=hBxz.cell 1;have x2:wz.cell? ⟨gx,2,none⟩=some (.slice p.AF f p.cF):=by rw[Hn.out];exact hBxz.cell 2
     have xl:=hBxz.lt;by_cases hqf:q<f
     ·as_aux_lemma=>
      have gq:(q:Int)<(f:Int):=by omega
      have a0:wz.cell? ⟨gX,0,none⟩=some (.slice AH f cH):=hXz.cell 0;have a3:wz.cell? ⟨gX,3,none⟩=some (.slice (some ⟨gL,0,none⟩) f f):=hXz.cell 3;have al:=hXz.lt;have hLz:=Own.below HL10.out hBz (Nat.le_refl _);obtain ⟨lv,hlv⟩:∃b,live[q]?=some b:=⟨_,List.getElem?_eq_getElem (by rw[Hlvl.out];exact hqf)⟩
      have cl:=OwnL.at_ hLz q (by rw[Hlvl.out];exact hqf)
      rw[(List.getElem?_eq_some_iff.1 hlv).2] at cl;have cll:=(OwnL.room hLz q (by rw[Hlvl.out];exact hqf)).2
      have Hlq:=Lib.hid hlv;clear hXz hBxz hBz hLz hlv
      have Hstep:=Lib.hid (fun (bd' st':Bool) (h1:bd'=true↔(bd=true∧(Reach (cg p.plain hs) 0 q→¬ Cyc (cg p.plain hs) q))) (h2:st'=true↔(st=true∧(Reach (cg p.plain hs) 0 q→(lps.getD q []).length=0)))=>
       show (bd'=true↔∀g,g<q+1→Reach (cg p.plain hs) 0 g→¬ Cyc (cg p.plain hs) g)∧(st'=true↔∀g,g<q+1→Reach (cg p.plain hs) 0 g→(lps.getD g []).length=0) from ⟨all_next h1 HBS.out.1,all_next h2 HBS.out.2⟩)
      cases lv with
      |false=>
       have hnr: ¬ Reach (cg p.plain hs) 0 q:=fun h=>by have h1:=(Hlv.out q).2 h;rw[Hlq.out] at h1;cases h1
       have HS2:=Lib.hid (Hstep.out bd st ⟨fun h=>⟨h,fun h2=>absurd h2 hnr⟩,fun h=>h.1⟩ ⟨fun h=>⟨h,fun h2=>absurd h2 hnr⟩,fun h=>h.1⟩);clear hnr;go_wp2_with fail
       exact ⟨⟨q+1,bd,st,by omega,by go_num,rfl,rfl,HS2,HBz.out⟩,by simp[intOf];omega⟩
      |true=>
       have hr:=(Hlv.out q).1 Hlq.out;have Hr:=Lib.hid hr;clear hr;go_wp2_with fail
       refine (Hrch2.out q hqf wz HBz.out).mono ?_;rintro e wy ⟨gN,seen2,rfl,hLN,hsl2,hseen2,hby⟩;obtain ⟨sv,hsv⟩:∃b,seen2[q]?=some b:=⟨_,List.getElem?_eq_getElem (by omega)⟩
       have cn:=OwnL.at_ hLN q (by omega)
       rw[(List.getElem?_eq_some_iff.1 hsv).2] at cn;have cnl:=(OwnL.room hLN q (by omega)).2
       have hcyc:sv=true↔Cyc (cg p.plain hs) q:=by
        have h1:=hseen2 q;rw[hsv] at h1;constructor
        ·intro e;rw[e] at h1;exact h1.1 rfl
        intro e;exact Option.some.inj (h1.2 e)
       have HBy:=Lib.hid (HBz.out.trans (hby.mono HBz.out.size));have hXy:=HX10.out.below HBy.out HX10.out.lt;obtain ⟨bL,rL,hAL,-,hbL,hcL,-⟩:=rows_at HM10.out.hl HM10.out.sl HM10.out.ol (f:=q) (by rw[Hll.out];exact hqf)
       have y0:wy.cell? ⟨gX,3,none⟩=some (.slice (some ⟨gL,0,none⟩) f f):=hXy.cell 3;have y1:wy.cell? ⟨gX,2,none⟩=some (.slice (some ⟨bL,0,none⟩) f cL):=by rw[←hAL];exact hXy.cell 2
       have yl:=hXy.lt;have y2:wy.cell? ⟨gL,q,none⟩=some (.bool true):=by rw[(bcell hby).1 _ _ cll];exact cl
       have y2l:gL<wy.heap.size:=by have:=hby.size;omega
       have y3:wy.cell? ⟨bL,q,none⟩=some (.slice rL.A (lps.getD q []).length rL.c):=by rw[(bcell HBy.out).1 _ _ hbL];exact hcL
       have y3l:bL<wy.heap.size:=by have:=HBy.out.size;omega
       obtain ⟨nl,hnl⟩:∃m,m=(lps.getD q []).length:=⟨_,rfl⟩;rw[←hnl] at y3;obtain ⟨rA,hrA⟩:∃m,m=rL.A:=⟨_,rfl⟩;obtain ⟨rc,hrc⟩:∃m,m=rL.c:=⟨_,rfl⟩;rw[←hrA, ←hrc] at y3;have Hcyc:=Lib.hid hcyc;have Hnl:=Lib.hid hnl;clear hLN hsl2 hseen2 hby hsv hcyc hXy hAL hcL hbL hnl hrA hrc x0 x1 x2 xl a0 a3 al cl cll;cases sv with
       |true=>
        have hb1:false=true↔(bd=true∧(Reach (cg p.plain hs) 0 q→¬ Cyc (cg p.plain hs) q)):=⟨fun h=>(by cases h),fun h=>absurd (Hcyc.out.1 rfl) (h.2 Hr.out)⟩
        by_cases hn0:0<nl
        ·have gn:(0:Int)<(nl:Int):=by omega
         have HS2:=Lib.hid (Hstep.out false false hb1 ⟨fun h=>(by cases h),fun h=>by have h1:=h.2 Hr.out;have:=Hnl.out;omega⟩)
         clear hb1;go_wp2_with fail
         exact ⟨⟨q+1,false,false,by omega,by go_num,rfl,rfl,HS2,HBy.out⟩,by simp[intOf];omega⟩
        have gn: ¬ (0:Int)<(nl:Int):=by omega
        have HS2:=Lib.hid (Hstep.out false st hb1 ⟨fun h=>⟨h,fun _=>by have:=Hnl.out;omega⟩,fun h=>h.1⟩)
        clear hb1;go_wp2_with fail
        exact ⟨⟨q+1,false,st,by omega,by go_num,rfl,rfl,HS2,HBy.out⟩,by simp[intOf];omega⟩
       |false=>
        have hb1:bd=true↔(bd=true∧(Reach (cg p.plain hs) 0 q→¬ Cyc (cg p.plain hs) q)):=⟨fun h=>⟨h,fun _ h2=>by have:=Hcyc.out.2 h2;cases this⟩,fun h=>h.1⟩
        by_cases hn0:0<nl
        ·have gn:(0:Int)<(nl:Int):=by omega
         have HS2:=Lib.hid (Hstep.out bd false hb1 ⟨fun h=>(by cases h),fun h=>by have h1:=h.2 Hr.out;have:=Hnl.out;omega⟩)
         clear hb1;go_wp2_with fail
         exact ⟨⟨q+1,bd,false,by omega,by go_num,rfl,rfl,HS2,HBy.out⟩,by simp[intOf];omega⟩
        have gn: ¬ (0:Int)<(nl:Int):=by omega
        have HS2:=Lib.hid (Hstep.out bd st hb1 ⟨fun h=>⟨h,fun _=>by have:=Hnl.out;omega⟩,fun h=>h.1⟩)
        clear hb1;go_wp2_with fail
        exact ⟨⟨q+1,bd,st,by omega,by go_num,rfl,rfl,HS2,HBy.out⟩,by simp[intOf];omega⟩
     obtain rfl:f=q:=by omega
     have hac:bd=true↔Acyc p.plain hs:=by
      rw[HBS.out.1];constructor
      ·intro h v hv;have h1:=reach_lt Hgood.out hv;rw[HnP.out] at h1;exact h v h1 hv
      intro h g _ hg;exact h g hg
     have hstr:st=true↔Str p.plain hs:=by
      rw[HBS.out.2];constructor
      ·intro h g hg;have h1:=reach_lt Hgood.out hg;rw[HnP.out] at h1;exact (HlpF.out g h1).1 (h g h1 hg)
      intro h g hgf hg;exact (HlpF.out g hgf).2 (h g hg)
     have Hac:=Lib.hid hac;have Hstr:=Lib.hid hstr;have HXz:=Lib.hid hXz;have HPz:=Lib.hid (HP10.out.below hBz);have HRz:=Lib.hid ((HM10.out.hrows (by rw[Hhl.out];exact hf0)).below hBz)
     have HTz:=Lib.hid ((RV.of_own HM10.out.ot).below hBz);have HBR10:=Lib.hid ((HBRr.out).only HO10.out hgRX);have HBE10:=Lib.hid ((HBEr.out).only HO10.out hgEX);have HBw10:=Lib.hid (show Below w.heap.size w w10 from HBr.out.trans (HO10.out.below (B:=w.heap.size) HBr.out.size fun k hk e=>by have:=HgX.out;omega))
     have q0:wz.cell? ⟨gX,0,none⟩=some (.slice AH f cH):=hXz.cell 0;have q1:wz.cell? ⟨gX,1,none⟩=some (.slice AT f cT):=hXz.cell 1;have q2:wz.cell? ⟨gX,2,none⟩=some (.slice AL f cL):=hXz.cell 2;have q3:wz.cell? ⟨gX,3,none⟩=some (.slice (some ⟨gL,0,none⟩) f f):=hXz.cell 3;have q4:wz.cell? ⟨gX,4,none⟩=some (.int .i64 0):=hXz.cell 4;have q5:wz.cell? ⟨gX,5,none⟩=some (.int .i64 0):=hXz.cell 5;have ql:=hXz.lt;have hmkI:=run_ints f (by omega)
     have hmkB:=run_bools f (by omega)
     clear hac hstr hXz hBxz hBz HBS;go_upto_region 37 with (fail)
     go_cut [16] from 155 to 166 (fun s wx=>∃gs gc gk gi gw,s= .pointer (some ⟨gs,0,none⟩)∧NewSums wz wx p f AH cH AT cT (.slice AL f cL) (.slice (some ⟨gL,0,none⟩) f f) (.int .i64 0) (.int .i64 0) gs gc gk gi gw)
     case first=>
      as_aux_lemma=>
      obtain ⟨SC,hSCd⟩:∃S:World→Prop,S=fun w'=>(w'.cell? ⟨gx,0,none⟩=some (.int .i64 p.mem)∧w'.cell? ⟨gx,1,none⟩=some (.slice p.AD p.data.length p.cD)∧w'.cell? ⟨gx,2,none⟩=some (.slice p.AF f p.cF)∧gx<w'.heap.size)∧(w'.cell? ⟨gX,0,none⟩=some (.slice AH f cH)∧w'.cell? ⟨gX,1,none⟩=some (.slice AT f cT)∧w'.cell? ⟨gX,2,none⟩=some (.slice AL f cL)∧w'.cell? ⟨gX,3,none⟩=some (.slice (some ⟨gL,0,none⟩) f f)∧w'.cell? ⟨gX,4,none⟩=some (.int .i64 0)∧w'.cell? ⟨gX,5,none⟩=some (.int .i64 0)∧gX<w'.heap.size):=⟨_,rfl⟩;have hSC:SC wz.drew:=by rw[hSCd];exact ⟨⟨x0,x1,x2,xl⟩,⟨q0,q1,q2,q3,q4,q5,ql⟩⟩
      have HSC:=Lib.hid (show SC wz.drew from hSC)
      have HSd:=Lib.hid hSCd;clear hSC hSCd;refine region_heldT 13 SC (by kernel_rfl) (by decide) ?_
      refine hwA 0 (.agg #[.int .i64 p.mem,.slice p.AD p.data.length p.cD,.slice p.AF f p.cF]) HSC.out ?_;simp only[Act.put,List.setIfInBounds_toArray];refine hwA 1 (.agg #[.slice AH f cH,.slice AT f cT,.slice AL f cL,.slice (some ⟨gL,0,none⟩) f f,.int .i64 0,.int .i64 0]) HSC.out ?_;simp only[Act.put];try simp only[List.getElem_toArray,List.getElem_cons_succ,List.getElem_cons_zero,List.setIfInBounds_toArray,List.set_cons_succ,List.set_cons_zero]
      refine hwA 2 (.int .i64 (f:Int)) HSC.out ?_;simp only[Act.put];refine hwA 4 (.int .i64 (f:Int)) HSC.out ?_;simp only[Act.put];try simp only[List.getElem_toArray,List.getElem_cons_succ,List.getElem_cons_zero,List.setIfInBounds_toArray,List.set_cons_succ,List.set_cons_zero]
      refine hwA 6 (.int .i64 (f:Int)) HSC.out ?_;simp only[Act.put];refine hwA 8 (.int .i64 (f:Int)) HSC.out ?_;simp only[Act.put];try simp only[List.getElem_toArray,List.getElem_cons_succ,List.getElem_cons_zero,List.setIfInBounds_toArray,List.set_cons_succ,List.set_cons_zero]
      have HSt:=Lib.hid (show ∀wa wb:World,SC wa→Below wa.heap.size wa wb→SC wb from fun wa wb h hb=>by
       rw[HSd.out] at h ⊢;obtain ⟨⟨x0,x1,x2,xl⟩,⟨q0,q1,q2,q3,q4,q5,ql⟩⟩:=h;obtain ⟨hc,-⟩:=bcell hb;have hz:=hb.size;exact ⟨⟨(hc _ _ xl).trans x0,(hc _ _ xl).trans x1,(hc _ _ xl).trans x2,by omega⟩,⟨(hc _ _ ql).trans q0,(hc _ _ ql).trans q1,(hc _ _ ql).trans q2,(hc _ _ ql).trans q3,(hc _ _ ql).trans q4,(hc _ _ ql).trans q5,by omega⟩⟩)
      refine headW_mk4 3 5 7 9 (some 158) (some 160) (some 162) (some 164) (fun g=> .slice (some ⟨g,0,none⟩) f f) 3 3 4 4 (Array.replicate f (iv 0)) (Array.replicate f (iv 0)) (Array.replicate f (bo false)) (Array.replicate f (bo false)) (fun b0 b1 b2 b3=>#[true,true,true,b0,true,b1,true,b2,true,b3,false,false,false]) (by kernel_rfl) (by kernel_rfl) ?_ (fun _ _ _ _=>⟨rfl,rfl,rfl,rfl⟩) ⟨rfl,rfl,rfl,rfl⟩ (by decide) (fun _ _ _ _=>⟨by kernel_rfl,by kernel_rfl,by kernel_rfl,by kernel_rfl⟩) ?_ ?_ ?_ ?_ HSt.out HSC.out ?_
      ·intro b0 b1 b2 b3 e;cases b0<;>cases b1<;>cases b2<;>cases b3<;>first|exact absurd e (by decide)|kernel_rfl
      iterate 4
       ·intro u0 u1 u2 u3 w' hSw K hK;simp only[put4,Act.put,List.getElem_toArray,List.getElem_cons_succ,List.getElem_cons_zero,List.setIfInBounds_toArray,List.set_cons_succ,List.set_cons_zero] at hK ⊢;go_simp;exact hK
      ·intro g1 g2 g3 g4 w' hb6 hbk l6 n6 hSw;simp only[put4,Act.put,List.setIfInBounds_toArray,List.set_cons_succ,List.set_cons_zero];obtain ⟨h1,h2,h3,h4⟩:=hbk;obtain ⟨l1,l2,l3,l4⟩:=l6;obtain ⟨n1,n2,n3,n4,n5,n6⟩:=n6;have H1:=Lib.hid h1;have H2:=Lib.hid h2;have H3:=Lib.hid h3;have H4:=Lib.hid h4;have HS4:=Lib.hid hSw;have HB6:=Lib.hid hb6;clear hSw h1 h2 h3 h4 hb6;refine hwO 10 fun K hK=>?_;refine wp_of_run (run_sums w' _ _ rfl rfl rfl rfl rfl rfl rfl) ?_;refine hK.out _ _ HS4.out (fun hHeld=>?_);clear hK K hHeld;simp only[Act.put,List.getElem_toArray,List.getElem_cons_succ,List.getElem_cons_zero,List.setIfInBounds_toArray,List.set_cons_succ,List.set_cons_zero];refine hwO 11 fun K hK=>?_;go_simp;have HSe:=Lib.hid (HSt.out _ _ HS4.out ((Below.refl _ w').alloc (Nat.le_refl _) (.cells #[.int .i64 p.mem,.slice p.AD p.data.length p.cD,.slice p.AF f p.cF,.slice AH f cH,.slice AT f cT,.slice AL f cL,.slice (some ⟨gL,0,none⟩) f f,.int .i64 0,.int .i64 0,.slice (some ⟨g1,0,none⟩) f f,.slice (some ⟨g2,0,none⟩) f f,.slice (some ⟨g3,0,none⟩) f f,.slice (some ⟨g4,0,none⟩) f f] 99)));refine hK.out _ _ HSe.out (fun hHeld=>?_);clear hK K hHeld;refine hwO 12 fun K hK=>?_;go_simp;refine hK.out _ _ HSe.out (fun hHeld=>?_);clear hK K hHeld;refine fun _=>⟨by kernel_rfl,?_⟩
       simp only[List.drop_succ_cons,List.drop_zero];go_wp2_with fail
       go_meet;have b1:=H1.out.lt;have b2:=H2.out.lt;have b3:=H3.out.lt;have b4:=H4.out.lt;have hs6:=HB6.out.size;have hdz:wz.drew.heap.size=wz.heap.size:=rfl;have hsep:SumsSep wz w'.heap.size g1 g2 g3 g4:=⟨by omega,by omega,by omega,by omega,by omega,by omega,by omega,by omega,by omega,by omega,by omega,by omega,by omega,by omega,by omega⟩
       exact ⟨w'.heap.size,g1,g2,g3,g4,rfl,NewSums.mk' (by omega) (((Below.refl _ wz).drew).trans (HB6.out.trans ((Below.refl _ w').alloc hs6 _))) hsep (Blk.new w' _ _) (H1.out.alloc _) (H2.out.alloc _) (H3.out.alloc _) (H4.out.alloc _)⟩
     case rest=>
     rename World=>wa;obtain ⟨gs,gc,gk,gi,gw,rfl,hNS⟩:=hcut;clear q0 q1 q2 q3 q4 q5 ql x0 x1 x2 xl hmkI hmkB;have hXa:=HXz.out.below hNS.sums.bel HXz.out.lt;have hsep:=hNS.sep;have hXl:=HXz.out.lt;obtain ⟨w0',hw0'⟩:∃w',w'=(wz.setCell ⟨gX,4,none⟩ (.int .i64 (-1))).setCell ⟨gX,5,none⟩ (.int .i64 (-1)):=⟨_,rfl⟩;obtain ⟨wb,hwb⟩:∃w',w'=(wa.setCell ⟨gX,4,none⟩ (.int .i64 (-1))).setCell ⟨gX,5,none⟩ (.int .i64 (-1)):=⟨_,rfl⟩;have hz0:w0'.heap.size=wz.heap.size:=by rw[hw0'];simp
     have hX0:Blk w0' gX 32 #[.slice AH f cH,.slice AT f cT,.slice AL f cL,.slice (some ⟨gL,0,none⟩) f f,.int .i64 (-1),.int .i64 (-1)]:=by rw[hw0'];exact (HXz.out.set_ 4 _).set_ 5 _
     have hXb:Blk wb gX 32 #[.slice AH f cH,.slice AT f cT,.slice AL f cL,.slice (some ⟨gL,0,none⟩) f f,.int .i64 (-1),.int .i64 (-1)]:=by rw[hwb];exact (hXa.set_ 4 _).set_ 5 _
     have hbel:Below w0'.heap.size w0' wb:=by
      rw[hz0,hw0',hwb];exact below_set2 (below_set2 hNS.sums.bel HXz.out hXa) (HXz.out.set_ 4 _) (hXa.set_ 4 _)
     have hE0:Only (fun k=>k=gX) wz w0':=by rw[hw0'];exact ((Only.refl (fun k=>k=gX) wz).setCell (p:=⟨gX,4,none⟩) (.inl rfl) _).setCell (p:=⟨gX,5,none⟩) (.inl rfl) _
     have hEb:Only (fun k=>k=gX) wa wb:=by rw[hwb];exact ((Only.refl (fun k=>k=gX) wa).setCell (p:=⟨gX,4,none⟩) (.inl rfl) _).setCell (p:=⟨gX,5,none⟩) (.inl rfl) _
     have hsep0:SumsSep w0' gs gc gk gi gw:=by obtain ⟨a1,a2,a3,a4,a5,a6,a7,a8,a9,a10,a11,a12,a13,a14,a15⟩:=hsep;exact ⟨by rw[hz0];exact a1,by rw[hz0];exact a2,by rw[hz0];exact a3,by rw[hz0];exact a4,by rw[hz0];exact a5,a6,a7,a8,a9,a10,a11,a12,a13,a14,a15⟩
     have hSM:SumsM w0' wb p f AH cH AT cT (.slice AL f cL) (.slice (some ⟨gL,0,none⟩) f f) (.int .i64 0) (.int .i64 0) gs gc gk gi gw:=⟨hbel,hNS.sums.blk.only hEb (fun e=>by have:=hsep.ls;omega)⟩
     have hgxw:=hNS.sep;have HD1:=Lib.hid (fun c=>(hNS.cells c).only hEb (fun e=>by have:=hsep.lc;omega) (fun e=>by have:=hsep.li;omega))
     have HD2:=Lib.hid (fun c=>(hNS.cost c).only hEb (fun e=>by have:=hsep.lk;omega) (fun e=>by have:=hsep.lw;omega))
     have hgX5:∀b,b<wz.heap.size→b≠gX→b<w0'.heap.size∧¬ b=gX:=fun b h1 h2=>⟨by omega,h2⟩
     have HB0:=Lib.hid (show Below w.heap.size w w0' from HBw10.out.trans ((HBz.out.mono HBw10.out.size).trans (hE0.below (B:=w.heap.size) (Nat.le_trans HBw10.out.size HBz.out.size) (fun k hk e=>by have:=HgX.out;omega))))
     have hP0:PrgAt w0' p:=HP.out.below HB0.out;have hM0:RunM w0' w.heap.size hs lps tops HR LR AH cH AT cT AL cL:=(HM10.out.below HBz.out).one HXz.out (by decide) (by decide) hE0
     have HSM:=Lib.hid hSM;have HM0:=Lib.hid hM0;have HP0:=Lib.hid hP0;have HR0:=Lib.hid (hM0.hrows (by rw[Hhl.out];exact hf0))
     have HT0:=Lib.hid (RV.of_own hM0.ot);have Hsep0:=Lib.hid hsep0;have HX0:=Lib.hid hX0;have HXb:=Lib.hid hXb;have HOb:=Lib.hid (show Only (fun k=>k=gX) w10 wb from (Only.of_fresh (S:=fun k=>k=gX) (HBz.out.trans (hNS.sums.bel.mono HBz.out.size))).trans hEb)
     have Hwb:=Lib.hid hwb;have hle:w10.heap.size≤wz.heap.size:=HBz.out.size;have Hz0:=Lib.hid hz0;have m4:wa.cell? ⟨gX,4,none⟩=some (.int .i64 0):=hXa.cell 4;have m5:wa.cell? ⟨gX,5,none⟩=some (.int .i64 0):=hXa.cell 5;have mf:=hXa.frozen;have ml:=hXa.lt;clear hXa hsep hw0' hwb hz0 hX0 hXb hbel hE0 hEb hsep0 hSM hgxw hgX5 hP0 hM0 hNS;go_upto_region 40 with (fail)
     rw[←Hwb.out];clear m4 m5 mf ml Hwb;cases bd with
     |false=>
      as_aux_lemma=>
      have hXF:Blk wb gX 32 #[.slice AH f cH,.slice AT f cT,.slice AL f cL,.slice (some ⟨gL,0,none⟩) f f,.int .i64 (-1),.int .i64 (-1)]:=HXb.out;have HOF:=HOb;have hna: ¬ Acyc p.plain hs:=fun h=>by have:=Hac.out.2 h;cases this
      have hMF:RunM wb w.heap.size hs lps tops HR LR AH cH AT cT AL cL:=HM10.out.one HX10.out (by decide) (by decide) HOF.out
      have hLF:OwnL wb wr.heap.size (some ⟨gL,0,none⟩) f f live:=Own.only HL10.out HOF.out (fun b o e e2=>by injection e with e;injection e with e;exact hLX (e.trans e2))
      have hBRF:=(HBR10.out).only HOF.out hgRX;have hBEF:=(HBE10.out).only HOF.out hgEX;have hBF:Below w.heap.size w wb:=HBw10.out.trans (HOF.out.below (B:=w.heap.size) HBw10.out.size fun k hk e=>by have:=HgX.out;omega)
      have HFo:=Lib.hid (show FactsOk p.plain hs tops lps live (-1) (-1) from ⟨HLead.out,Hgood.out,by rw[Hhl.out,HnP.out],by rw[Htl.out,HnP.out],by rw[Hll.out,HnP.out],by rw[Hlvl.out,HnP.out],fun g hg=>(HInv.out g (by rw[←HnP.out];exact hg)).1,fun g hg=>(HInv.out g (by rw[←HnP.out];exact hg)).2.1,fun g hg=>(HInv.out g (by rw[←HnP.out];exact hg)).2.2,Hlv.out,.inl ⟨hna,rfl⟩,.inl ⟨fun h=>hna h.1,rfl⟩⟩)
      have HMF:=Lib.hid hMF;have HLF:=Lib.hid hLF;have HBRF:=Lib.hid hBRF;have HBEF:=Lib.hid hBEF;have HBF:=Lib.hid hBF;have s0:wb.cell? ⟨gX,0,none⟩=some (.slice AH f cH):=hXF.cell 0;have s1:wb.cell? ⟨gX,1,none⟩=some (.slice AT f cT):=hXF.cell 1;have s2:wb.cell? ⟨gX,2,none⟩=some (.slice AL f cL):=hXF.cell 2;have s3:wb.cell? ⟨gX,3,none⟩=some (.slice (some ⟨gL,0,none⟩) f f):=hXF.cell 3;have s4:wb.cell? ⟨gX,4,none⟩=some (.int .i64 (-1)):=hXF.cell 4;have s5:wb.cell? ⟨gX,5,none⟩=some (.int .i64 (-1)):=hXF.cell 5;have sl:=hXF.lt;have r0:wb.cell? ⟨gR,0,none⟩=some (.slice none 0 0):=hBRF.cell 0;have r1:wb.cell? ⟨gR,1,none⟩=some (.slice none 0 0):=hBRF.cell 1;have r2:wb.cell? ⟨gR,2,none⟩=some (.slice none 0 0):=hBRF.cell 2;have r3:wb.cell? ⟨gR,3,none⟩=some (.slice none 0 0):=hBRF.cell 3;have r4:wb.cell? ⟨gR,4,none⟩=some (.int .i64 0):=hBRF.cell 4;have r5:wb.cell? ⟨gR,5,none⟩=some (.int .i64 0):=hBRF.cell 5;have e0:wb.cell? ⟨gE,0,none⟩=some (.int .i64 0):=hBEF.cell 0;have e1:wb.cell? ⟨gE,1,none⟩=some (.int .i64 0):=hBEF.cell 1;have e2:wb.cell? ⟨gE,2,none⟩=some (.int .i64 0):=hBEF.cell 2;have rf:=hBRF.frozen;have ef:=hBEF.frozen;have rl:=hBRF.lt;have el:=hBEF.lt;clear hMF hLF hBRF hBEF hBF hXF;go_wp2_with (refine wpList_atStore 32 (.tmp 2) (.tmp 180) rfl ?_;refine wp_stop ?_)
      try refine ⟨?_⟩
      refine wpList_storeB rfl 32 (.tmp 2) (.tmp 180) rfl [.slice AH f cH,.slice AT f cT,.slice AL f cL,.slice (some ⟨gL,0,none⟩) f f,.int .i64 (-1),.int .i64 (-1)] rfl rfl HBRF.out size_facts rfl (by intro v hv;simp only[List.mem_cons,List.not_mem_nil,or_false] at hv;rcases hv with rfl|rfl|rfl|rfl|rfl|rfl<;>rfl) ?_
      intro wy hRy hOR hzR;have hEy:=HBEF.out.only hOR (fun e=>hER e);refine wpList_storeB rfl 37 (.tmp 3) (.tmp 181) rfl [.int .i64 0,.int .i64 0,.int .i64 0] rfl rfl hEy size_fault rfl (by intro v hv;simp only[List.mem_cons,List.not_mem_nil,or_false] at hv;rcases hv with rfl|rfl|rfl<;>rfl) ?_
      intro wt k2 hOE hzE;have k1:=hRy.only hOE (fun e=>hRE e);have k3:Only (fun k=>k=gR∨k=gE) wb wt:=(hOR.mono fun k _ e=> .inl e).trans (hOE.mono fun k _ e=> .inr e);have hbelow:Below w.heap.size w _:=HBF.out.trans (k3.below (B:=w.heap.size) HBF.out.size fun k hk e=>by have:=Hg.out;omega)
      have HMf:=Lib.hid (HMF.out.keep k3
       (fun q hq b e e2=>e2.elim (own_blk_ne (HMF.out.sh.own q hq) HBRF.out (by decide) b e) (own_blk_ne (HMF.out.sh.own q hq) HBEF.out (by decide) b e))
       (fun q hq b e e2=>e2.elim (own_blk_ne (HMF.out.sl.own q hq) HBRF.out (by decide) b e) (own_blk_ne (HMF.out.sl.own q hq) HBEF.out (by decide) b e))
       (fun b e e2=>e2.elim (own_blk_ne HMF.out.oh HBRF.out (by decide) b e) (own_blk_ne HMF.out.oh HBEF.out (by decide) b e))
       (fun b e e2=>e2.elim (own_blk_ne HMF.out.ol HBRF.out (by decide) b e) (own_blk_ne HMF.out.ol HBEF.out (by decide) b e))
       (fun b e e2=>e2.elim (own_blk_ne HMF.out.ot HBRF.out (by decide) b e) (own_blk_ne HMF.out.ot HBEF.out (by decide) b e)))
      have HLf:=Lib.hid (Own.rebase (base':=w.heap.size) (Own.only HLF.out k3 (fun b o e e2=>e2.elim (own_blk_ne HLF.out HBRF.out (by decide) b (by rw[e];rfl)) (own_blk_ne HLF.out HBEF.out (by decide) b (by rw[e];rfl)))) (by have:=HgL.out;have:=HBr.out.size;omega))
      have q0:=k1.cell 0;have q1:=k1.cell 1;have q2:=k1.cell 2;have q3:=k1.cell 3;have q4:=k1.cell 4;have q5:=k1.cell 5;have p0:=k2.cell 0;have p1:=k2.cell 1;have p2:=k2.cell 2;dsimp at q0 q1 q2 q3 q4 q5 p0 p1 p2
      clear hRy hOR hzR hEy hOE hzE s0 s1 s2 s3 s4 s5 sl r0 r1 r2 r3 r4 r5 e0 e1 e2 rf ef rl el;go_wp2_with fail
      refine bodyPost_ret (v:=.tuple #[.agg #[.slice AH f cH,.slice AT f cT,.slice AL f cL,.slice (some ⟨gL,0,none⟩) f f,.int .i64 (-1),.int .i64 (-1)],.agg #[.int .i64 0,.int .i64 0,.int .i64 0]]) ?_ rfl ⟨hbelow,.inr ⟨hs,tops,lps,live,(-1),(-1),HR,LR,AH,cH,AT,cT,AL,cL,gL,HFo.out,HMf.out,by rw[Hlvl.out];exact HLf.out,by rw[Hhl.out,Htl.out,Hll.out,Hlvl.out];rfl⟩⟩
      simp[results,Try.results21,go_sem,q0,q1,q2,q3,q4,q5,p0,p1,p2]
     |true=>
      have hA:=Hac.out.1 rfl;obtain ⟨cc,hcc⟩:=cells_exist Hgood.out tops hA;have Hcc:=Lib.hid hcc;have HA:=Lib.hid hA;have Hcl:=Lib.hid (refCells_any (B:=wz.heap.size) HP0.out Hgood.out Hn.out.symm Hsep0.out HWF.out HR0.out HT0.out hA hcc (rk (cg p.plain hs) p.plain.fs.length 0+1) 0 (List.replicate f false) wb (Nat.lt_succ_self _) hf0 (.refl 0) HSM.out (HD1.out cc));clear hA hcc;go_wp2_with fail
      refine Hcl.out.mono ?_;rintro e wc ⟨rfl,K1,-,-,hOc⟩;have hXc:=HXb.out.only hOc (fun e=>e.elim (fun e=>by have:=Hsep0.out.lc;have:=Hz0.out;omega) (fun e=>by have:=Hsep0.out.li;have:=Hz0.out;omega))
      obtain ⟨v0,hv0⟩:∃v,v=cc 0:=⟨_,rfl⟩;rw[←hv0];have Hv0:=Lib.hid hv0;obtain ⟨w0n,hw0n⟩:∃w',w'=w0'.setCell ⟨gX,4,none⟩ (.int .i64 v0):=⟨_,rfl⟩;obtain ⟨wd,hwd⟩:∃w',w'=wc.setCell ⟨gX,4,none⟩ (.int .i64 v0):=⟨_,rfl⟩;have hz1:w0n.heap.size=w0'.heap.size:=by rw[hw0n];simp
      have hSMc:=HSM.out.only hOc (fun k e=>e.elim (fun e=>by rw[e];exact Hsep0.out.lc) (fun e=>by rw[e];exact Hsep0.out.li)) (fun e=>e.elim Hsep0.out.sc Hsep0.out.si)
      have hbel:Below w0n.heap.size w0n wd:=by rw[hz1,hw0n,hwd];exact below_set2 hSMc.bel HX0.out hXc
      have hE0:Only (fun k=>k=gX) w0' w0n:=by rw[hw0n];exact (Only.refl (fun k=>k=gX) w0').setCell (p:=⟨gX,4,none⟩) (.inl rfl) _
      have hEd:Only (fun k=>k=gX) wc wd:=by rw[hwd];exact (Only.refl (fun k=>k=gX) wc).setCell (p:=⟨gX,4,none⟩) (.inl rfl) _
      have hXd:Blk wd gX 32 #[.slice AH f cH,.slice AT f cT,.slice AL f cL,.slice (some ⟨gL,0,none⟩) f f,.int .i64 v0,.int .i64 (-1)]:=by rw[hwd];exact hXc.set_ 4 _
      have HXd:=Lib.hid hXd
      have HOd:=Lib.hid (show Only (fun k=>k=gX) w10 wd from HOb.out.more (hOc.mono (T:=fun k=>k=gc∨k=gi∨k=gX) (fun k _ e=>e.elim .inl fun e=> .inr (.inl e)) |>.trans (hEd.mono fun k _ e=> .inr (.inr e))) fun k hk e=>by
       have h1:=Hsep0.out.lc;have h2:=Hsep0.out.li;have h3:=Hz0.out;rcases e with e|e|e
       ·omega
       ·omega
       exact e)
      have HSMd:=Lib.hid (show SumsM w0n wd p f AH cH AT cT (.slice AL f cL) (.slice (some ⟨gL,0,none⟩) f f) (.int .i64 0) (.int .i64 0) gs gc gk gi gw from ⟨hbel,hSMc.blk.only hEd (fun e=>by have:=Hsep0.out.ls;have:=Hz0.out;omega)⟩)
      have HD2d:=Lib.hid (fun c=>((HD2.out c).only hOc (fun e=>e.elim (fun e=>Hsep0.out.ck e.symm) Hsep0.out.ki) (fun e=>e.elim (fun e=>Hsep0.out.cw e.symm) (fun e=>Hsep0.out.iw e.symm))).only hEd (fun e=>by have:=Hsep0.out.lk;have:=Hz0.out;omega) (fun e=>by have:=Hsep0.out.lw;have:=Hz0.out;omega))
      have HP0n:=Lib.hid (show PrgAt w0n p from HP.out.below (HB0.out.trans (hE0.below (B:=w.heap.size) HB0.out.size fun k hk e=>by have:=HgX.out;omega)))
      have HR0n:=Lib.hid (((HM0.out.one HX0.out (by decide) (by decide) hE0)).hrows (by rw[Hhl.out];exact hf0))
      have Hsepn:=Lib.hid (show SumsSep w0n gs gc gk gi gw from by obtain ⟨a1,a2,a3,a4,a5,a6,a7,a8,a9,a10,a11,a12,a13,a14,a15⟩:=Hsep0.out;exact ⟨by rw[hz1];exact a1,by rw[hz1];exact a2,by rw[hz1];exact a3,by rw[hz1];exact a4,by rw[hz1];exact a5,a6,a7,a8,a9,a10,a11,a12,a13,a14,a15⟩)
      have Hwd:=Lib.hid hwd;have m4:wc.cell? ⟨gX,4,none⟩=some (.int .i64 (-1)):=hXc.cell 4;have mf:=hXc.frozen 4;have ml:=hXc.lt;clear hXc hv0 hw0n hwd hSMc hbel hE0 hEd hXd hOc Hcl;go_upto_region 42 with (fail)
      rw[←Hwd.out];clear m4 mf ml Hwd;cases st with
      |false=>
       as_aux_lemma=>
       have hXF:Blk wd gX 32 #[.slice AH f cH,.slice AT f cT,.slice AL f cL,.slice (some ⟨gL,0,none⟩) f f,.int .i64 v0,.int .i64 (-1)]:=HXd.out;have HOF:=HOd;have hns: ¬ Str p.plain hs:=fun h=>by have:=Hstr.out.2 h;cases this
       have hMF:RunM wd w.heap.size hs lps tops HR LR AH cH AT cT AL cL:=HM10.out.one HX10.out (by decide) (by decide) HOF.out
       have hLF:OwnL wd wr.heap.size (some ⟨gL,0,none⟩) f f live:=Own.only HL10.out HOF.out (fun b o e e2=>by injection e with e;injection e with e;exact hLX (e.trans e2))
       have hBRF:=(HBR10.out).only HOF.out hgRX;have hBEF:=(HBE10.out).only HOF.out hgEX;have hBF:Below w.heap.size w wd:=HBw10.out.trans (HOF.out.below (B:=w.heap.size) HBw10.out.size fun k hk e=>by have:=HgX.out;omega)
       have HFo:=Lib.hid (show FactsOk p.plain hs tops lps live v0 (-1) from ⟨HLead.out,Hgood.out,by rw[Hhl.out,HnP.out],by rw[Htl.out,HnP.out],by rw[Hll.out,HnP.out],by rw[Hlvl.out,HnP.out],fun g hg=>(HInv.out g (by rw[←HnP.out];exact hg)).1,fun g hg=>(HInv.out g (by rw[←HnP.out];exact hg)).2.1,fun g hg=>(HInv.out g (by rw[←HnP.out];exact hg)).2.2,Hlv.out,.inr ⟨HA.out,cc,Hcc.out,Hv0.out⟩,.inl ⟨fun h=>hns h.2,rfl⟩⟩)
       have HMF:=Lib.hid hMF;have HLF:=Lib.hid hLF;have HBRF:=Lib.hid hBRF;have HBEF:=Lib.hid hBEF;have HBF:=Lib.hid hBF;have s0:wd.cell? ⟨gX,0,none⟩=some (.slice AH f cH):=hXF.cell 0;have s1:wd.cell? ⟨gX,1,none⟩=some (.slice AT f cT):=hXF.cell 1;have s2:wd.cell? ⟨gX,2,none⟩=some (.slice AL f cL):=hXF.cell 2;have s3:wd.cell? ⟨gX,3,none⟩=some (.slice (some ⟨gL,0,none⟩) f f):=hXF.cell 3;have s4:wd.cell? ⟨gX,4,none⟩=some (.int .i64 v0):=hXF.cell 4;have s5:wd.cell? ⟨gX,5,none⟩=some (.int .i64 (-1)):=hXF.cell 5;have sl:=hXF.lt;have r0:wd.cell? ⟨gR,0,none⟩=some (.slice none 0 0):=hBRF.cell 0;have r1:wd.cell? ⟨gR,1,none⟩=some (.slice none 0 0):=hBRF.cell 1;have r2:wd.cell? ⟨gR,2,none⟩=some (.slice none 0 0):=hBRF.cell 2;have r3:wd.cell? ⟨gR,3,none⟩=some (.slice none 0 0):=hBRF.cell 3;have r4:wd.cell? ⟨gR,4,none⟩=some (.int .i64 0):=hBRF.cell 4;have r5:wd.cell? ⟨gR,5,none⟩=some (.int .i64 0):=hBRF.cell 5;have e0:wd.cell? ⟨gE,0,none⟩=some (.int .i64 0):=hBEF.cell 0;have e1:wd.cell? ⟨gE,1,none⟩=some (.int .i64 0):=hBEF.cell 1;have e2:wd.cell? ⟨gE,2,none⟩=some (.int .i64 0):=hBEF.cell 2;have rf:=hBRF.frozen;have ef:=hBEF.frozen;have rl:=hBRF.lt;have el:=hBEF.lt;clear hMF hLF hBRF hBEF hBF hXF;go_wp2_with (refine wpList_atStore 32 (.tmp 2) (.tmp 180) rfl ?_;refine wp_stop ?_)
       try refine ⟨?_⟩
       refine wpList_storeB rfl 32 (.tmp 2) (.tmp 180) rfl [.slice AH f cH,.slice AT f cT,.slice AL f cL,.slice (some ⟨gL,0,none⟩) f f,.int .i64 v0,.int .i64 (-1)] rfl rfl HBRF.out size_facts rfl (by intro v hv;simp only[List.mem_cons,List.not_mem_nil,or_false] at hv;rcases hv with rfl|rfl|rfl|rfl|rfl|rfl<;>rfl) ?_
       intro wy hRy hOR hzR;have hEy:=HBEF.out.only hOR (fun e=>hER e);refine wpList_storeB rfl 37 (.tmp 3) (.tmp 181) rfl [.int .i64 0,.int .i64 0,.int .i64 0] rfl rfl hEy size_fault rfl (by intro v hv;simp only[List.mem_cons,List.not_mem_nil,or_false] at hv;rcases hv with rfl|rfl|rfl<;>rfl) ?_
       intro wt k2 hOE hzE;have k1:=hRy.only hOE (fun e=>hRE e);have k3:Only (fun k=>k=gR∨k=gE) wd wt:=(hOR.mono fun k _ e=> .inl e).trans (hOE.mono fun k _ e=> .inr e);have hbelow:Below w.heap.size w _:=HBF.out.trans (k3.below (B:=w.heap.size) HBF.out.size fun k hk e=>by have:=Hg.out;omega)
       have HMf:=Lib.hid (HMF.out.keep k3
        (fun q hq b e e2=>e2.elim (own_blk_ne (HMF.out.sh.own q hq) HBRF.out (by decide) b e) (own_blk_ne (HMF.out.sh.own q hq) HBEF.out (by decide) b e))
        (fun q hq b e e2=>e2.elim (own_blk_ne (HMF.out.sl.own q hq) HBRF.out (by decide) b e) (own_blk_ne (HMF.out.sl.own q hq) HBEF.out (by decide) b e))
        (fun b e e2=>e2.elim (own_blk_ne HMF.out.oh HBRF.out (by decide) b e) (own_blk_ne HMF.out.oh HBEF.out (by decide) b e))
        (fun b e e2=>e2.elim (own_blk_ne HMF.out.ol HBRF.out (by decide) b e) (own_blk_ne HMF.out.ol HBEF.out (by decide) b e))
        (fun b e e2=>e2.elim (own_blk_ne HMF.out.ot HBRF.out (by decide) b e) (own_blk_ne HMF.out.ot HBEF.out (by decide) b e)))
       have HLf:=Lib.hid (Own.rebase (base':=w.heap.size) (Own.only HLF.out k3 (fun b o e e2=>e2.elim (own_blk_ne HLF.out HBRF.out (by decide) b (by rw[e];rfl)) (own_blk_ne HLF.out HBEF.out (by decide) b (by rw[e];rfl)))) (by have:=HgL.out;have:=HBr.out.size;omega))
       have q0:=k1.cell 0;have q1:=k1.cell 1;have q2:=k1.cell 2;have q3:=k1.cell 3;have q4:=k1.cell 4;have q5:=k1.cell 5;have p0:=k2.cell 0;have p1:=k2.cell 1;have p2:=k2.cell 2;dsimp at q0 q1 q2 q3 q4 q5 p0 p1 p2
       clear hRy hOR hzR hEy hOE hzE s0 s1 s2 s3 s4 s5 sl r0 r1 r2 r3 r4 r5 e0 e1 e2 rf ef rl el;go_wp2_with fail
       refine bodyPost_ret (v:=.tuple #[.agg #[.slice AH f cH,.slice AT f cT,.slice AL f cL,.slice (some ⟨gL,0,none⟩) f f,.int .i64 v0,.int .i64 (-1)],.agg #[.int .i64 0,.int .i64 0,.int .i64 0]]) ?_ rfl ⟨hbelow,.inr ⟨hs,tops,lps,live,v0,(-1),HR,LR,AH,cH,AT,cT,AL,cL,gL,HFo.out,HMf.out,by rw[Hlvl.out];exact HLf.out,by rw[Hhl.out,Htl.out,Hll.out,Hlvl.out];rfl⟩⟩
       simp[results,Try.results21,go_sem,q0,q1,q2,q3,q4,q5,p0,p1,p2]
      |true=>
       as_aux_lemma=>
       have hStr:=Hstr.out.1 rfl;have HStrt:=Lib.hid (show Strt p.plain hs from ⟨HA.out,hStr,fun g hg=>(HInv.out g (by rw[←HnP.out];exact hg)).1,by rw[Hhl.out,HnP.out]⟩)
       have Hco:=Lib.hid (refCost_any (B:=wz.heap.size) HP0n.out Hgood.out Hn.out.symm Hsepn.out HStrt.out HR0n.out (rk (cg p.plain hs) p.plain.fs.length 0+1) 0 (List.replicate f false) wd (Nat.lt_succ_self _) hf0 (.refl 0) HSMd.out (HD2d.out _));have HStr:=Lib.hid hStr;clear hStr;go_wp2_with fail
       refine Hco.out.mono ?_;rintro e we ⟨rfl,K2,-,-,hOe⟩;have hXe:=HXd.out.only hOe (fun e=>e.elim (fun e=>by have:=Hsep0.out.lk;have:=Hz0.out;omega) (fun e=>by have:=Hsep0.out.lw;have:=Hz0.out;omega))
       obtain ⟨v1,hv1⟩:∃v,v=vC p.plain 0:=⟨_,rfl⟩;rw[←hv1];have Hv1:=Lib.hid hv1;obtain ⟨wf,hwf⟩:∃w',w'=we.setCell ⟨gX,5,none⟩ (.int .i64 v1):=⟨_,rfl⟩;have hEf:Only (fun k=>k=gX) we wf:=by rw[hwf];exact (Only.refl (fun k=>k=gX) we).setCell (p:=⟨gX,5,none⟩) (.inl rfl) _
       have hXF:Blk wf gX 32 #[.slice AH f cH,.slice AT f cT,.slice AL f cL,.slice (some ⟨gL,0,none⟩) f f,.int .i64 v0,.int .i64 v1]:=by rw[hwf];exact hXe.set_ 5 _
       have HOF:=Lib.hid (show Only (fun k=>k=gX) w10 wf from HOd.out.more (hOe.mono (T:=fun k=>k=gk∨k=gw∨k=gX) (fun k _ e=>e.elim .inl fun e=> .inr (.inl e)) |>.trans (hEf.mono fun k _ e=> .inr (.inr e))) fun k hk e=>by
        have h1:=Hsep0.out.lk;have h2:=Hsep0.out.lw;have h3:=Hz0.out;rcases e with e|e|e
        ·omega
        ·omega
        exact e)
       have Hwf:=Lib.hid hwf;have m5:we.cell? ⟨gX,5,none⟩=some (.int .i64 (-1)):=hXe.cell 5;have mf:=hXe.frozen 5;have ml:=hXe.lt;have HXF:=Lib.hid hXF;clear hXe hv1 hwf hEf hXF hOe Hco;go_upto_region 44 with (fail)
       rw[←Hwf.out];clear m5 mf ml Hwf;have hXF:=HXF.out;have hMF:RunM wf w.heap.size hs lps tops HR LR AH cH AT cT AL cL:=HM10.out.one HX10.out (by decide) (by decide) HOF.out
       have hLF:OwnL wf wr.heap.size (some ⟨gL,0,none⟩) f f live:=Own.only HL10.out HOF.out (fun b o e e2=>by injection e with e;injection e with e;exact hLX (e.trans e2))
       have hBRF:=(HBR10.out).only HOF.out hgRX;have hBEF:=(HBE10.out).only HOF.out hgEX;have hBF:Below w.heap.size w wf:=HBw10.out.trans (HOF.out.below (B:=w.heap.size) HBw10.out.size fun k hk e=>by have:=HgX.out;omega)
       have HFo:=Lib.hid (show FactsOk p.plain hs tops lps live v0 v1 from ⟨HLead.out,Hgood.out,by rw[Hhl.out,HnP.out],by rw[Htl.out,HnP.out],by rw[Hll.out,HnP.out],by rw[Hlvl.out,HnP.out],fun g hg=>(HInv.out g (by rw[←HnP.out];exact hg)).1,fun g hg=>(HInv.out g (by rw[←HnP.out];exact hg)).2.1,fun g hg=>(HInv.out g (by rw[←HnP.out];exact hg)).2.2,Hlv.out,.inr ⟨HA.out,cc,Hcc.out,Hv0.out⟩,.inr ⟨HA.out,HStr.out,by rw[Hv1.out];rfl⟩⟩)
       have HMF:=Lib.hid hMF;have HLF:=Lib.hid hLF;have HBRF:=Lib.hid hBRF;have HBEF:=Lib.hid hBEF;have HBF:=Lib.hid hBF;have s0:wf.cell? ⟨gX,0,none⟩=some (.slice AH f cH):=hXF.cell 0;have s1:wf.cell? ⟨gX,1,none⟩=some (.slice AT f cT):=hXF.cell 1;have s2:wf.cell? ⟨gX,2,none⟩=some (.slice AL f cL):=hXF.cell 2;have s3:wf.cell? ⟨gX,3,none⟩=some (.slice (some ⟨gL,0,none⟩) f f):=hXF.cell 3;have s4:wf.cell? ⟨gX,4,none⟩=some (.int .i64 v0):=hXF.cell 4;have s5:wf.cell? ⟨gX,5,none⟩=some (.int .i64 v1):=hXF.cell 5;have sl:=hXF.lt;have r0:wf.cell? ⟨gR,0,none⟩=some (.slice none 0 0):=hBRF.cell 0;have r1:wf.cell? ⟨gR,1,none⟩=some (.slice none 0 0):=hBRF.cell 1;have r2:wf.cell? ⟨gR,2,none⟩=some (.slice none 0 0):=hBRF.cell 2;have r3:wf.cell? ⟨gR,3,none⟩=some (.slice none 0 0):=hBRF.cell 3;have r4:wf.cell? ⟨gR,4,none⟩=some (.int .i64 0):=hBRF.cell 4;have r5:wf.cell? ⟨gR,5,none⟩=some (.int .i64 0):=hBRF.cell 5;have e0:wf.cell? ⟨gE,0,none⟩=some (.int .i64 0):=hBEF.cell 0;have e1:wf.cell? ⟨gE,1,none⟩=some (.int .i64 0):=hBEF.cell 1;have e2:wf.cell? ⟨gE,2,none⟩=some (.int .i64 0):=hBEF.cell 2;have rf:=hBRF.frozen;have ef:=hBEF.frozen;have rl:=hBRF.lt;have el:=hBEF.lt;clear hMF hLF hBRF hBEF hBF hXF;go_wp2_with (refine wpList_atStore 32 (.tmp 2) (.tmp 180) rfl ?_;refine wp_stop ?_)
       try refine ⟨?_⟩
       refine wpList_storeB rfl 32 (.tmp 2) (.tmp 180) rfl [.slice AH f cH,.slice AT f cT,.slice AL f cL,.slice (some ⟨gL,0,none⟩) f f,.int .i64 v0,.int .i64 v1] rfl rfl HBRF.out size_facts rfl (by intro v hv;simp only[List.mem_cons,List.not_mem_nil,or_false] at hv;rcases hv with rfl|rfl|rfl|rfl|rfl|rfl<;>rfl) ?_
       intro wy hRy hOR hzR;have hEy:=HBEF.out.only hOR (fun e=>hER e);refine wpList_storeB rfl 37 (.tmp 3) (.tmp 181) rfl [.int .i64 0,.int .i64 0,.int .i64 0] rfl rfl hEy size_fault rfl (by intro v hv;simp only[List.mem_cons,List.not_mem_nil,or_false] at hv;rcases hv with rfl|rfl|rfl<;>rfl) ?_
       intro wt k2 hOE hzE;have k1:=hRy.only hOE (fun e=>hRE e);have k3:Only (fun k=>k=gR∨k=gE) wf wt:=(hOR.mono fun k _ e=> .inl e).trans (hOE.mono fun k _ e=> .inr e);have hbelow:Below w.heap.size w _:=HBF.out.trans (k3.below (B:=w.heap.size) HBF.out.size fun k hk e=>by have:=Hg.out;omega)
       have HMf:=Lib.hid (HMF.out.keep k3
        (fun q hq b e e2=>e2.elim (own_blk_ne (HMF.out.sh.own q hq) HBRF.out (by decide) b e) (own_blk_ne (HMF.out.sh.own q hq) HBEF.out (by decide) b e))
        (fun q hq b e e2=>e2.elim (own_blk_ne (HMF.out.sl.own q hq) HBRF.out (by decide) b e) (own_blk_ne (HMF.out.sl.own q hq) HBEF.out (by decide) b e))
        (fun b e e2=>e2.elim (own_blk_ne HMF.out.oh HBRF.out (by decide) b e) (own_blk_ne HMF.out.oh HBEF.out (by decide) b e))
        (fun b e e2=>e2.elim (own_blk_ne HMF.out.ol HBRF.out (by decide) b e) (own_blk_ne HMF.out.ol HBEF.out (by decide) b e))
        (fun b e e2=>e2.elim (own_blk_ne HMF.out.ot HBRF.out (by decide) b e) (own_blk_ne HMF.out.ot HBEF.out (by decide) b e)))
       have HLf:=Lib.hid (Own.rebase (base':=w.heap.size) (Own.only HLF.out k3 (fun b o e e2=>e2.elim (own_blk_ne HLF.out HBRF.out (by decide) b (by rw[e];rfl)) (own_blk_ne HLF.out HBEF.out (by decide) b (by rw[e];rfl)))) (by have:=HgL.out;have:=HBr.out.size;omega))
       have q0:=k1.cell 0;have q1:=k1.cell 1;have q2:=k1.cell 2;have q3:=k1.cell 3;have q4:=k1.cell 4;have q5:=k1.cell 5;have p0:=k2.cell 0;have p1:=k2.cell 1;have p2:=k2.cell 2;dsimp at q0 q1 q2 q3 q4 q5 p0 p1 p2
       clear hRy hOR hzR hEy hOE hzE s0 s1 s2 s3 s4 s5 sl r0 r1 r2 r3 r4 r5 e0 e1 e2 rf ef rl el;go_wp2_with fail
       refine bodyPost_ret (v:=.tuple #[.agg #[.slice AH f cH,.slice AT f cT,.slice AL f cL,.slice (some ⟨gL,0,none⟩) f f,.int .i64 v0,.int .i64 v1],.agg #[.int .i64 0,.int .i64 0,.int .i64 0]]) ?_ rfl ⟨hbelow,.inr ⟨hs,tops,lps,live,v0,v1,HR,LR,AH,cH,AT,cT,AL,cL,gL,HFo.out,HMf.out,by rw[Hlvl.out];exact HLf.out,by rw[Hhl.out,Htl.out,Hll.out,Hlvl.out];rfl⟩⟩
       simp[results,Try.results21,go_sem,q0,q1,q2,q3,q4,q5,p0,p1,p2]
   have hr2:(gr != 1)=true:=by simpa using hr1
   have HBad:=Lib.hid (show BadAt p.plain (139,0,0) from .inr (.inl ⟨Hck0.out,.inr (by rw[Hgr.out];exact hr1),rfl⟩))
   subst ha0;go_wp2_with fail
   obtain ⟨k1,k2,k3⟩:=store9 w2 gR gE _ _ HBR2.out HBE2.out rfl rfl hRE (.slice none 0 0) (.slice none 0 0) (.slice none 0 0) (.slice none 0 0) (.int .i64 0) (.int .i64 0) (.int .i64 139) (.int .i64 0) (.int .i64 0);have hbelow:Below w.heap.size w _:=HB2.out.trans (k3.below (B:=w.heap.size) HB2.out.size fun k hk e=>by have:=Hg.out;omega)
   have q0:=k1.cell 0;have q1:=k1.cell 1;have q2:=k1.cell 2;have q3:=k1.cell 3;have q4:=k1.cell 4;have q5:=k1.cell 5;have p0:=k2.cell 0;have p1:=k2.cell 1;have p2:=k2.cell 2;dsimp at q0 q1 q2 q3 q4 q5 p0 p1 p2
   refine bodyPost_ret (v:=.tuple #[.agg #[.slice none 0 0,.slice none 0 0,.slice none 0 0,.slice none 0 0,.int .i64 0,.int .i64 0],.agg #[.int .i64 139,.int .i64 0,.int .i64 0]]) ?_ rfl ⟨hbelow,.inl ⟨_,HBad.out,rfl⟩⟩;simp[results,Try.results21,go_sem,q0,q1,q2,q3,q4,q5,p0,p1,p2]
  have ha2:(ga != 0)=true:=by simpa using ha0
  have HBad:=Lib.hid (show BadAt p.plain (139,0,0) from .inr (.inl ⟨Hck0.out,.inl (by rw[Hga.out];exact ha0),rfl⟩))
  go_wp2_with fail
  obtain ⟨k1,k2,k3⟩:=store9 w2 gR gE _ _ HBR2.out HBE2.out rfl rfl hRE (.slice none 0 0) (.slice none 0 0) (.slice none 0 0) (.slice none 0 0) (.int .i64 0) (.int .i64 0) (.int .i64 139) (.int .i64 0) (.int .i64 0);have hbelow:Below w.heap.size w _:=HB2.out.trans (k3.below (B:=w.heap.size) HB2.out.size fun k hk e=>by have:=Hg.out;omega)
  have q0:=k1.cell 0;have q1:=k1.cell 1;have q2:=k1.cell 2;have q3:=k1.cell 3;have q4:=k1.cell 4;have q5:=k1.cell 5;have p0:=k2.cell 0;have p1:=k2.cell 1;have p2:=k2.cell 2;dsimp at q0 q1 q2 q3 q4 q5 p0 p1 p2
  refine bodyPost_ret (v:=.tuple #[.agg #[.slice none 0 0,.slice none 0 0,.slice none 0 0,.slice none 0 0,.int .i64 0,.int .i64 0],.agg #[.int .i64 139,.int .i64 0,.int .i64 0]]) ?_ rfl ⟨hbelow,.inl ⟨_,HBad.out,rfl⟩⟩;simp[results,Try.results21,go_sem,q0,q1,q2,q3,q4,q5,p0,p1,p2]
 go_wp2_with fail
 obtain ⟨k1,k2,k3⟩:=store9 w2 gR gE _ _ HBR2.out HBE2.out rfl rfl hRE (.slice none 0 0) (.slice none 0 0) (.slice none 0 0) (.slice none 0 0) (.int .i64 0) (.int .i64 0) (.int .i64 ck) (.int .i64 0) (.int .i64 0);have hbelow:Below w.heap.size w _:=HB2.out.trans (k3.below (B:=w.heap.size) HB2.out.size fun k hk e=>by have:=Hg.out;omega)
 have q0:=k1.cell 0;have q1:=k1.cell 1;have q2:=k1.cell 2;have q3:=k1.cell 3;have q4:=k1.cell 4;have q5:=k1.cell 5;have p0:=k2.cell 0;have p1:=k2.cell 1;have p2:=k2.cell 2;dsimp at q0 q1 q2 q3 q4 q5 p0 p1 p2
 refine bodyPost_ret (v:=.tuple #[.agg #[.slice none 0 0,.slice none 0 0,.slice none 0 0,.slice none 0 0,.int .i64 0,.int .i64 0],.agg #[.int .i64 ck,.int .i64 0,.int .i64 0]]) ?_ rfl ⟨hbelow,.inl ⟨(ck,0,0),.inl ⟨by rw[←Hck.out];exact h0,by rw[←Hck.out]⟩,rfl⟩⟩
 simp[results,Try.results21,go_sem,q0,q1,q2,q3,q4,q5,p0,p1,p2]
end Go.Proofs.Ytcmpmhlcfalbhaa
