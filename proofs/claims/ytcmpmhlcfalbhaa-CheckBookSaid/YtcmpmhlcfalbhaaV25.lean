import Derived.Test.YtcmpmhlcfalbhaaV22
import Derived.Test.YtcmpmhlcfalbhaaV11
namespace Go.Proofs.Ytcmpmhlcfalbhaa
open Go.RowKit
theorem run_max2 (a b:Int) (w:World):(Builtin.max_ #[3,3] 3 #[.int .i64 a,.int .i64 b]).run Try.prog w= .ok (.int .i64 (max a b)) w:=by
 have e:(if b>a then b else a)=max a b:=by split<;>omega
 rw[←e];simp[Builtin.max_,Builtin.max2]
set_option maxRecDepth 100000 in
set_option maxHeartbeats 4000000 in
theorem cells_any {p:PrgM} {hs:List (List Int)} {tops:List Int} {w0 wq:World} {AH AT:Option Addr} {nH cH nT cT:Nat} {vL vV ce co:Value} {bw bx bm lo hi bk n:Nat} {c:Nat→Int} (hg:Good p.plain) (hn:p.fs.length=n) (hS:KSep w0 wq bw bx lo hi bk)
  (hnH:nH=n) (hnT:nT=n) (hW:WhF p.plain hs tops) (hF:FM wq bx p.plain hs tops AH AT n) (ha:Acyc p.plain hs) (hc:CellsEq p.plain hs tops c):
  ∀(k f:Nat) (K:List Bool) (w:World),rk (cg p.plain hs) p.plain.fs.length f<k→f<n→Reach (cg p.plain hs) 0 f→K.length=n→WhQ w0 wq w p hs tops AH AT nH cH nT cT vL vV ce co bw bx bm lo hi→KMap w bk K c→
   Calls Try.prog 67 #[.pointer (some ⟨bw,0,none⟩),.int .i64 (f:Int),.map (some bk)] w fun e w'=>e= .returned (.int .i64 (c f))∧∃K',KP (cg p.plain hs) f K K'∧KMap w' bk K' c∧Only (fun g=>g=bk) w w':=by
 intro k
 induction k with
 |zero=>intro f K w hk;omega
 |succ k ih=>
  intro f K w hk hf hr hKl hQ hM;have hn64:n≤64:=by have:=(good_many hg.chk).2;rw[←hn];simpa [PrgM.plain] using this
  obtain ⟨v,hv⟩:∃v,K[f]?=some v:=⟨_,List.getElem?_eq_getElem (by omega)⟩
  have hcb:=cells_small hg hW ha hc hr;have HQ:=Lib.hid hQ;have HM:=Lib.hid hM;have Hv:=Lib.hid hv;cases v with
  |true=>
   have hlk:=hM.yes (by omega) hv
   clear hQ hM hv;obtain ⟨x,hx⟩:∃x,x=c f:=⟨_,rfl⟩;rw[←hx] at hlk hcb ⊢;clear hx;go_enter Try.func67,Try.ntmps67
   go_wp2_with fail
   go_ret
   exact ⟨rfl,K,KP.was Hv.out,HM.out,Only.refl _ _⟩
  |false=>
   have hlk:=hM.no (by omega) hv
   have y3:w.cell? ⟨bw,3,none⟩=some (.pointer (some ⟨bx,0,none⟩)):=hQ.whc.blkW.cell 3;have y4:w.cell? ⟨bw,4,none⟩=some (.map (some bm)):=hQ.whc.blkW.cell 4;have wl:=hQ.whc.blkW.lt;have xl:=hQ.blkX.lt;obtain ⟨bt,ot,rfl,-,htl,ht⟩:=(hF.only hQ.old).trow f hf;have x1:w.cell? ⟨bx,1,none⟩=some (.slice (some ⟨bt,ot,none⟩) nT cT):=hQ.blkX.cell 1;have g1:(f:Int)<(nT:Int):=by omega
   obtain ⟨A,cc,hlk2,hrow,hrng⟩:=hQ.whc.calls.get w (fun _ _ _=>rfl) hQ.whc.calls.size f (by omega)
   rw[callsI_len] at hlk2;obtain ⟨m,hm⟩:∃m,m=(callsN p.plain hs f).length:=⟨_,rfl⟩;rw[←hm] at hlk2;have hm4:m≤4096:=by have:=callsN_len p.plain hs f;have:=good_len hg f;omega
   have Hm:=Lib.hid hm;have Hrng:=Lib.hid hrng;have Hrow:=Lib.hid hrow;obtain ⟨T,hT⟩:∃T,T=tops.getD f 0:=⟨_,rfl⟩;rw[←hT] at ht;have HT:=Lib.hid hT;clear hQ hM hv hm hrng hrow hT;go_enter Try.func67,Try.ntmps67
   go_wp2_with fail
   go_loopw [9,38] (fun t i wr=>∃j:Nat,∃K',j≤m∧i= .int .i64 (j:Int)∧t= .int .i64 (cellsTo p.plain hs tops c f j)∧KI (cg p.plain hs) f K K'∧KMap wr bk K' c∧Only (fun g=>g=bk) w wr) (fun _ i _=>m-(intOf i).toNat)
   case atStart=>exact ⟨0,K,Nat.zero_le _,rfl,by rw[cellsTo_zero,HT.out],KI.start,HM.out,Only.refl _ _⟩
   rename World=>wr;obtain ⟨j,K',hj,rfl,rfl,hI,hMr,hB⟩:=hrel;have hQr:=HQ.out.one hS hB;have HQr:=Lib.hid hQr;have HI:=Lib.hid hI;have HMr:=Lib.hid hMr;have HB:=Lib.hid hB;by_cases hlt:j<m
   ·have g2:(j:Int)<(m:Int):=by omega
    have hjn:j<(callsN p.plain hs f).length:=by rw[←Hm.out];exact hlt
    obtain ⟨N,hN⟩:∃N,N=(callsN p.plain hs f)[j]:=⟨_,rfl⟩;obtain ⟨i,hi,h17,hia,hal2,hNl⟩:=good_call hg (hs:=hs) (f:=f) (n:=N) (by rw[hN];exact List.getElem_mem hjn)
    obtain ⟨G,hG⟩:∃G,G=p.plain.aOf f N:=⟨_,rfl⟩;rw[←hG] at hia hal2;have hGn:G<n:=by rw[←hn];simpa [PrgM.plain] using hal2
    have hcg:G∈cg p.plain hs f:=List.mem_map.2 ⟨N,by rw[hN];exact List.getElem_mem hjn,hG.symm⟩
    have hrow2:=RV.same Hrow.out Hrng.out (SameOn.only hB HQ.out.whc.calls.size fun k h1 h2=>hS.sep.r k h1 h2) HQr.out.whc.calls.size;obtain ⟨rb,ro,rfl,hrl,hrc⟩:=hrow2.at_ (by rw[List.length_map,callsI_len];omega)
    have r0:=hrc j _ (callsI_get hjn);rw[←hN] at r0;have hP:=hQr.whc.prgAt;obtain ⟨g,hgf⟩:∃g,p.fs[f]?=some g:=⟨_,List.getElem?_eq_getElem (by omega)⟩
    obtain ⟨ga,hga⟩:∃g,p.fs[G]?=some g:=⟨_,List.getElem?_eq_getElem (by omega)⟩
    obtain ⟨b0,off,hA,hb,q0,q1,q2,q3,hFn,hFl⟩:=hP.fn hgf;obtain ⟨b0',off',hA',gb,ga0,-,-,-,-,-⟩:=hP.fn hga;rw[hA] at hA';injection hA' with hA'
    injection hA' with e1 e2
    subst e1 e2;have y2:wr.cell? ⟨bw,2,none⟩=some (.slice (some ⟨b0,off,none⟩) p.fs.length p.cF):=by rw[←hA];exact hQr.whc.blkW.cell 2
    have wlr:=hQr.whc.blkW.lt;have xlr:=hQr.blkX.lt;have y3r:wr.cell? ⟨bw,3,none⟩=some (.pointer (some ⟨bx,0,none⟩)):=hQr.whc.blkW.cell 3;obtain ⟨bh,oh,rh,ph,rc,rfl,n1,k2,k1,n2,k4,k3⟩:=hF.hrow f hf;have hzq:=hQr.old.size;have hnew:=hS.new;have hh1:=(hQr.old.cell (p:=⟨bh,oh+f,none⟩) k2 n1).trans k1;have hh2:bh<wr.heap.size:=by omega
    have hh4:rh<wr.heap.size:=by omega
    have Hn1:=Lib.hid (show ¬ bh=bk by omega)
    have Hn2:=Lib.hid (show ¬ rh=bk by omega)
    have Hn3:=Lib.hid (show ¬ b0=bk from by
     obtain ⟨b3,off3,hA3,hb3,-⟩:=hQr.whc.prg.fn hga;rw[hA] at hA3;injection hA3 with hA3
     injection hA3 with e3 e4
     have:=hS.sep.l;omega)
    have x0r:wr.cell? ⟨bx,0,none⟩=some (.slice (some ⟨bh,oh,none⟩) nH cH):=hQr.blkX.cell 0;have hh3:=(hQr.old.cell (p:=⟨rh,ph+N,none⟩) k4 n2).trans (k3 N hNl);obtain ⟨LN,hLN⟩:∃L,L=p.plain.len f:=⟨_,rfl⟩;obtain ⟨hv,hhv⟩:∃x,x=htAt hs f N:=⟨_,rfl⟩;have hvb:=hW.b f N;rw[←hLN] at hh1 hNl;rw[←hhv] at hh3 hvb;have hi2:g.code[N]?=some i:=by rw[p.ins_plain,hgf,Option.bind_some] at hi;exact hi
    obtain ⟨b1,off1,hA1,hb1,s0,s1,hiok,hNg⟩:=hFn.ins hi2;rw[hA1] at q3;rw[hia] at s1;have g3:(f:Int)<(p.fs.length:Int):=by omega
    have g4:(N:Int)<(g.code.length:Int):=by omega
    have g5:(N:Int)<(LN:Int):=by omega
    have g6:(G:Int)<(p.fs.length:Int):=by omega
    have g7:(f:Int)<(nH:Int):=by omega
    have hGA:=good_fn hg.chk (show ga.plain∈p.plain.fs from List.mem_map.2 ⟨ga,List.mem_of_getElem? hga,rfl⟩)
    have ha0:0≤ga.args:=hGA.a0;have ha1:ga.args≤16:=hGA.a1;obtain ⟨M,hM⟩:∃M,M=cellsTo p.plain hs tops c f j:=⟨_,rfl⟩;have HMd:=Lib.hid hM
    have Hcell:=Lib.hid (show cellsTo p.plain hs tops c f (j+1)=max M (hv-ga.args+c G) from by
     rw[cellsTo_next hjn, ←hM];simp only[←hN];rw[←hG, ←hhv,PrgM.args_plain hga])
    rw[←hM];have hcG:=cells_small hg hW ha hc (hr.trans (.one hcg));have HK:=Lib.hid (ih G K' wr.drew (by have:=rk_lt (show f<p.plain.fs.length by simpa [PrgM.plain,hn] using hf) hcg (ha f hr);omega) hGn (hr.trans (.one hcg)) (hI.len.trans hKl) ⟨⟨hQr.whc.prg,hQr.whc.below.drew,hQr.whc.calls.same (fun _ _ _=>rfl) hQr.whc.calls.size,hQr.whc.blkW⟩,hQr.blkX,hQr.old.drew⟩ (hMr.heap rfl))
    have Hcg:=Lib.hid hcg;clear hcg;clear hrow2 hrc hA hA1 hFn hiok hi hi2 hgf hga hGA hP hQr hI hMr hB hN hG hLN hhv hM k1 k2 k3 k4 n1 n2 hzq hnew;go_upto_region 9 with (fail)
    obtain ⟨SC,hSCd⟩:∃S:World→Prop,S=fun w'=>(w'.cell? ⟨bw,3,none⟩=some (.pointer (some ⟨bx,0,none⟩))∧bw<w'.heap.size)∧(w'.cell? ⟨bx,0,none⟩=some (.slice (some ⟨bh,oh,none⟩) nH cH)∧bx<w'.heap.size)∧(w'.cell? ⟨bh,oh+f,none⟩=some (.slice (some ⟨rh,ph,none⟩) LN rc)∧bh<w'.heap.size)∧(w'.cell? ⟨rh,ph+N,none⟩=some (.int .i64 hv)∧rh<w'.heap.size)∧(w'.cell? ⟨bw,2,none⟩=some (.slice (some ⟨b0,off,none⟩) p.fs.length p.cF))∧(w'.cell? ⟨b0,off+G*4,none⟩=some (.int .i64 ga.args)∧b0<w'.heap.size):=⟨_,rfl⟩;have hSC:SC wr.drew:=by rw[hSCd];exact ⟨⟨y3r,wlr⟩,⟨x0r,xlr⟩,⟨hh1,hh2⟩,⟨hh3,hh4⟩,y2,⟨ga0,gb⟩⟩
    have hmx:=run_max2 M (hv-ga.args+c G) w0;have hwr2:IntKind.i64.wrap (hv-ga.args+c G)=hv-ga.args+c G:=by rw[IntKind.wrap_i64];omega
    have hwr:IntKind.i64.wrap (hv-ga.args)=hv-ga.args:=by rw[IntKind.wrap_i64];omega
    have HSC:=Lib.hid (show SC wr.drew from hSC)
    have HSd:=Lib.hid hSCd;clear hSC hSCd;refine region_heldT 31 SC (by kernel_rfl) (by decide) ?_
    refine hwA 0 (.int .i64 M) HSC.out ?_;simp only[Act.put,List.setIfInBounds_toArray];refine hwA 1 (.pointer (some ⟨bw,0,none⟩)) HSC.out ?_;simp only[Act.put];refine hwA 2 (.pointer (some ⟨bw,0,none⟩)) HSC.out ?_;simp only[Act.put];refine hwA 3 (.pointer (some ⟨bw,3,none⟩)) HSC.out ?_;simp only[Act.put];refine hwA 4 (.pointer (some ⟨bx,0,none⟩)) HSC.out ?_;simp only[Act.put];refine hwA 5 (.pointer (some ⟨bx,0,none⟩)) HSC.out ?_;simp only[Act.put];refine hwA 6 (.pointer (some ⟨bx,0,none⟩)) HSC.out ?_;simp only[Act.put];refine hwA 7 (.slice (some ⟨bh,oh,none⟩) nH cH) HSC.out ?_;simp only[Act.put];refine hwA 8 (.int .i64 (f:Int)) HSC.out ?_;simp only[Act.put];refine hwA 9 (.pointer (some ⟨bh,oh+f,none⟩)) HSC.out ?_;simp only[Act.put];refine hwA 10 (.slice (some ⟨rh,ph,none⟩) LN rc) HSC.out ?_;simp only[Act.put];refine hwA 11 (.int .i64 (N:Int)) HSC.out ?_;simp only[Act.put];refine hwA 12 (.pointer (some ⟨rh,ph+N,none⟩)) HSC.out ?_;simp only[Act.put];refine hwA 13 (.int .i64 hv) HSC.out ?_;simp only[Act.put];refine hwA 14 (.pointer (some ⟨bw,0,none⟩)) HSC.out ?_;simp only[Act.put];refine hwA 15 (.pointer (some ⟨bw,0,none⟩)) HSC.out ?_;simp only[Act.put];refine hwA 16 (.pointer (some ⟨bw,0,none⟩)) HSC.out ?_;simp only[Act.put];refine hwA 17 (.pointer (some ⟨bw,2,none⟩)) HSC.out ?_;simp only[Act.put];refine hwA 18 (.slice (some ⟨b0,off,none⟩) p.fs.length p.cF) HSC.out ?_;simp only[Act.put];refine hwA 19 (.int .i64 (G:Int)) HSC.out ?_;simp only[Act.put];refine hwA 20 (.pointer (some ⟨b0,off+G*4,none⟩)) HSC.out ?_;simp only[Act.put];refine hwA 21 (.pointer (some ⟨b0,off+G*4,none⟩)) HSC.out ?_;simp only[Act.put];refine hwA 22 (.int .i64 ga.args) HSC.out ?_;simp only[Act.put];refine hwA 23 (.int .i64 (hv-ga.args)) HSC.out ?_;simp only[Act.put];refine hwA 24 (.pointer (some ⟨bw,0,none⟩)) HSC.out ?_;simp only[Act.put];refine hwA 25 (.int .i64 (G:Int)) HSC.out ?_;simp only[Act.put];refine hwA 26 (.map (some bk)) HSC.out ?_;simp only[Act.put];refine hwO 27 fun K hK=>?_;go_simp;refine HK.out.mono ?_;rintro e w2 ⟨rfl,K2,hP2,hM2,hO2⟩;have HP2:=Lib.hid hP2;have HM2:=Lib.hid hM2;have HO2:=Lib.hid hO2
    have hSC2:SC w2:=by
     have h:=HSC.out;rw[HSd.out] at h ⊢;obtain ⟨⟨e0,l0⟩,⟨e1,l1⟩,⟨e2,l2⟩,⟨e3,l3⟩,e4,⟨e5,l5⟩⟩:=h;have hz:=hO2.size;refine ⟨⟨(hO2.cell l0 (fun e=>hS.sep.w e.symm)).trans e0,by omega⟩,⟨(hO2.cell l1 (fun e=>hS.sep.x e.symm)).trans e1,by omega⟩,⟨(hO2.cell l2 Hn1.out).trans e2,by omega⟩,⟨(hO2.cell l3 Hn2.out).trans e3,by omega⟩,(hO2.cell l0 (fun e=>hS.sep.w e.symm)).trans e4,⟨(hO2.cell l5 Hn3.out).trans e5,by omega⟩⟩
    refine hK.out _ _ hSC2 (fun hHeld=>?_);clear hK K hHeld hP2 hM2 hO2;refine hwO 28 fun K hK=>?_;go_simp;refine hK.out _ _ hSC2 (fun hHeld=>?_);clear hK K hHeld;refine hwO 29 fun K hK=>?_;go_simp;refine hK.out _ _ hSC2 (fun hHeld=>?_);clear hK K hHeld;refine hwO 30 fun K hK=>?_;go_simp;refine hK.out _ _ hSC2 (fun hHeld=>?_);clear hK K hHeld;refine fun _=>⟨by kernel_rfl,?_⟩
    simp only[List.drop_succ_cons,List.drop_zero];go_wp2_with fail
    refine ⟨⟨j+1,K2,by omega,rfl,(by rw[Hcell.out];congr 1;split<;>omega),HI.out.step Hcg.out HP2.out,HM2.out,HB.out.trans ((Only.refl _ wr).drew.trans HO2.out)⟩,?_⟩
    simp[intOf];omega
   obtain rfl:j=m:=by omega
   have hoff:=hI.off Hv.out (ha f hr);obtain ⟨w2,hup,hM2,hgr⟩:=hMr.store (v:=f) (by rw[hI.len];omega) hoff (by omega)
   have hget:=hM2.get (v:=f) (by omega) (List.getElem?_set_self (by rw[hI.len];omega))
   have hP:=hQr.whc.prgAt;obtain ⟨g,hgf⟩:∃g,p.fs[f]?=some g:=⟨_,List.getElem?_eq_getElem (by omega)⟩
   obtain ⟨b0,off,hA,hb,q0,q1,q2,q3,hFn,hFl⟩:=hP.fn hgf;have y2:wr.cell? ⟨bw,2,none⟩=some (.slice (some ⟨b0,off,none⟩) p.fs.length p.cF):=by rw[←hA];exact hQr.whc.blkW.cell 2
   have wlr:=hQr.whc.blkW.lt;have g3:(f:Int)<(p.fs.length:Int):=by omega
   have hceq:c f=1+g.locals+cellsTo p.plain hs tops c f j:=by rw[hc f (by simpa [PrgM.plain,hn] using hf) hr,PrgM.locals_plain hgf,Hm.out]
   obtain ⟨M,hM⟩:∃M,M=cellsTo p.plain hs tops c f j:=⟨_,rfl⟩;rw[←hM] at hceq ⊢;rw[hceq] at hup hget hcb;have HE:=Lib.hid hceq;have hGF:=good_fn hg.chk (show g.plain∈p.plain.fs from List.mem_map.2 ⟨g,List.mem_of_getElem? hgf,rfl⟩)
   have hl0:0≤g.locals:=by have:=hGF.l0;have:=hGF.a0;change g.args≤g.locals at*;change 0≤g.args at*;omega
   have hl1:g.locals≤64:=hGF.l1;have HM2:=Lib.hid hM2;have Hgr:=Lib.hid hgr;clear hQr hMr hB hM2 hgr hP hA hgf hFn hGF hceq hM hoff hI;go_wp2_with fail
   go_ret
   exact ⟨(by rw[HE.out];rfl),_,HI.out.fin (by omega),HM2.out,HB.out.grown Hgr.out fun q hq=>by injection hq with hq;exact .inl hq.symm⟩
end Go.Proofs.Ytcmpmhlcfalbhaa
