import Derived.Test.YtcmpmhlcfalbhaaV11
import Derived.Test.YtcmpmhlcfalbhaaV24
import Derived.Test.YtcmpmhlcfalbhaaV25
import Derived.Deep.CutRange
namespace Go.Proofs.Ytcmpmhlcfalbhaa
open Go.RowKit
def cellsAt (P:Prg) (hs:List (List Int)) (tops:List Int) (c:Nat→Int) (f j:Nat):Int:=
 ((List.range j).filter (isCall P hs f)).foldl (fun m n=>max m (htAt hs f n-P.args (P.aOf f n)+c (P.aOf f n))) (tops.getD f 0)
section
variable {P:Prg} {hs:List (List Int)} {tops:List Int} {c:Nat→Int} {f j:Nat}
theorem cellsAt_zero:cellsAt P hs tops c f 0=tops.getD f 0:=rfl
theorem cellsAt_yes (h:isCall P hs f j=true):cellsAt P hs tops c f (j+1)=max (cellsAt P hs tops c f j) (htAt hs f j-P.args (P.aOf f j)+c (P.aOf f j)):=by
 unfold cellsAt;rw[List.range_succ,List.filter_append,List.foldl_append];simp[h]
theorem cellsAt_no (h:isCall P hs f j=false):cellsAt P hs tops c f (j+1)=cellsAt P hs tops c f j:=by
 unfold cellsAt;rw[List.range_succ,List.filter_append,List.foldl_append];simp[h]
theorem cellsAt_len:cellsAt P hs tops c f (P.len f)=cellsTo P hs tops c f (callsN P hs f).length:=by
 unfold cellsAt cellsTo;rw[List.take_length];rfl
theorem cellsAt_to (hj:j≤P.len f):∃k,k≤(callsN P hs f).length∧cellsAt P hs tops c f j=cellsTo P hs tops c f k:=by
 refine ⟨((List.range j).filter (isCall P hs f)).length,?_,?_⟩
 ·unfold callsN;obtain ⟨d,hd⟩:∃d,P.len f=j+d:=⟨P.len f-j,by omega⟩
  rw[hd,List.range_add,List.filter_append,List.length_append];exact Nat.le_add_right _ _
 unfold cellsAt cellsTo callsN;obtain ⟨d,hd⟩:∃d,P.len f=j+d:=⟨P.len f-j,by omega⟩
 rw[hd,List.range_add,List.filter_append,List.take_left'];rfl
end
structure SumsM (w0 w:World) (p:PrgM) (F:Nat) (AH:Option Addr) (cH:Nat) (AT:Option Addr) (cT:Nat) (vL vV ce co:Value) (gs gc gk gi gw:Nat):Prop where
 bel:Below w0.heap.size w0 w
 blk:Blk w gs 99 #[.int .i64 p.mem,.slice p.AD p.data.length p.cD,.slice p.AF F p.cF,.slice AH F cH,.slice AT F cT,vL,vV,ce,co,.slice (some ⟨gc,0,none⟩) F F,.slice (some ⟨gk,0,none⟩) F F,.slice (some ⟨gi,0,none⟩) F F,.slice (some ⟨gw,0,none⟩) F F]
structure SumsSep (w0:World) (gs gc gk gi gw:Nat):Prop where
 ls:w0.heap.size≤gs
 lc:w0.heap.size≤gc
 lk:w0.heap.size≤gk
 li:w0.heap.size≤gi
 lw:w0.heap.size≤gw
 sc:gs≠gc
 sk:gs≠gk
 si:gs≠gi
 sw:gs≠gw
 ck:gc≠gk
 ci:gc≠gi
 cw:gc≠gw
 ki:gk≠gi
 kw:gk≠gw
 iw:gi≠gw
theorem SumsM.only {w0 w w':World} {p:PrgM} {F:Nat} {AH:Option Addr} {cH:Nat} {AT:Option Addr} {cT:Nat} {vL vV ce co:Value} {gs gc gk gi gw:Nat} (h:SumsM w0 w p F AH cH AT cT vL vV ce co gs gc gk gi gw) {S:Nat→Prop} (ho:Only S w w') (h1:∀k,S k→w0.heap.size≤k) (h2: ¬ S gs):SumsM w0 w' p F AH cH AT cT vL vV ce co gs gc gk gi gw:=
 ⟨h.bel.trans (ho.below h.bel.size (fun k hk e=>by have:=h1 k e;omega)),h.blk.only ho h2⟩
structure DoneM (w:World) (B gc gi F:Nat) (K:List Bool) (c:Nat→Int):Prop where
 out:∃C:List Int,OwnI w B (some ⟨gc,0,none⟩) F F C∧OwnL w B (some ⟨gi,0,none⟩) F F K∧C.length=F∧K.length=F∧∀i:Nat,K[i]?=some true→C[i]?=some (c i)
theorem DoneM.only {w w':World} {B gc gi F:Nat} {K:List Bool} {c:Nat→Int} (h:DoneM w B gc gi F K c) {S:Nat→Prop} (ho:Only S w w') (h1: ¬ S gc) (h2: ¬ S gi):DoneM w' B gc gi F K c:=by
 obtain ⟨C,h3,h4,h5⟩:=h.out;exact ⟨C,Own.only h3 ho (fun b o e=>by injection e with e;injection e with e;subst e;exact h1),Own.only h4 ho (fun b o e=>by injection e with e;injection e with e;subst e;exact h2),h5⟩
theorem DoneM.len {w:World} {B gc gi F:Nat} {K:List Bool} {c:Nat→Int} (h:DoneM w B gc gi F K c):K.length=F:=by
 obtain ⟨C,-,-,-,h4,-⟩:=h.out;exact h4
def CellsPost (P:Prg) (hs:List (List Int)) (B gc gi F f:Nat) (K:List Bool) (c:Nat→Int) (w:World) (e:Ending) (w':World):Prop:=
 e= .returned (.int .i64 (c f))∧∃K',KP (cg P hs) f K K'∧DoneM w' B gc gi F K' c∧Only (fun b=>b=gc∨b=gi) w w'
set_option maxRecDepth 100000 in
set_option maxHeartbeats 4000000 in
theorem refCells_any {p:PrgM} {hs:List (List Int)} {tops:List Int} {w0:World} {AH AT:Option Addr} {cH cT:Nat} {vL vV ce co:Value} {gs gc gk gi gw F B:Nat} {c:Nat→Int} (hp:PrgAt w0 p) (hg:Good p.plain) (hF:p.fs.length=F) (hS:SumsSep w0 gs gc gk gi gw)
  (hW:WhF p.plain hs tops) (hR:HRows w0 AH hs) (hT:RV w0 AT (tops.map iv)) (ha:Acyc p.plain hs) (hc:CellsEq p.plain hs tops c):
  ∀(k f:Nat) (K:List Bool) (w:World),rk (cg p.plain hs) p.plain.fs.length f<k→f<F→Reach (cg p.plain hs) 0 f→SumsM w0 w p F AH cH AT cT vL vV ce co gs gc gk gi gw→DoneM w B gc gi F K c→
   Calls Try.prog 52 #[.pointer (some ⟨gs,0,none⟩),.int .i64 (f:Int)] w (CellsPost p.plain hs B gc gi F f K c w):=by
 intro k
 induction k with
 |zero=>intro f K w hk;omega
 |succ k ih=>
  intro f K w hk hf hr hQ hM;have hpF:p.plain.fs.length=F:=by rw[←hF];simp[PrgM.plain]
  have hF64:F≤64:=by have:=(good_many hg.chk).2;omega
  obtain ⟨C,hC,hK,hCl,hKl,hCK⟩:=hM.out;obtain ⟨v,hv⟩:∃v,K[f]?=some v:=⟨_,List.getElem?_eq_getElem (by omega)⟩
  have hcb:=cells_small hg hW ha hc hr;have gfF:(f:Int)<(F:Int):=by omega
  have s9:w.cell? ⟨gs,9,none⟩=some (.slice (some ⟨gc,0,none⟩) F F):=hQ.blk.cell 9;have s11:w.cell? ⟨gs,11,none⟩=some (.slice (some ⟨gi,0,none⟩) F F):=hQ.blk.cell 11;have sl:=hQ.blk.lt;have k0:=OwnL.at_ hK f (by omega)
  rw[(List.getElem?_eq_some_iff.1 hv).2] at k0;have k0l:=(OwnL.room hK f (by omega)).2
  have HQ:=Lib.hid hQ;have HM:=Lib.hid hM;have Hv:=Lib.hid hv;cases v with
  |true=>
   have hcf:=hCK f hv;have k1:=OwnI.at_ hC f (by omega)
   rw[(List.getElem?_eq_some_iff.1 hcf).2] at k1;have k1l:=(OwnI.room hC f (by omega)).2
   clear hQ hM hv hC hK hCK hcf;obtain ⟨x,hx⟩:∃x,x=c f:=⟨_,rfl⟩;rw[←hx] at k1 hcb;have Hx:=Lib.hid hx;clear hx;go_enter Try.func52,Try.ntmps52
   go_wp2_with fail
   go_ret
   exact ⟨by rw[Hx.out];rfl,K,KP.was Hv.out,HM.out,Only.refl _ _⟩
  |false=>
   obtain ⟨bh,rfl,hbh,hrows⟩:=hR;obtain ⟨R,cR,hrc0,hrv⟩:=hrows f (by rw[hW.lh];omega)
   have hrc:=((bcell hQ.bel).1 _ f hbh).trans hrc0;have hbh2:bh<w.heap.size:=by have:=hQ.bel.size;omega
   have hrl:=hW.row f (by omega)
   obtain ⟨N,hN⟩:∃N,N=p.plain.len f:=⟨_,rfl⟩;have hN4:N≤4096:=by rw[hN];exact good_len hg f
   rw[hrl, ←hN] at hrc;clear hrc0 hrows;have s3:w.cell? ⟨gs,3,none⟩=some (.slice (some ⟨bh,0,none⟩) F cH):=hQ.blk.cell 3;obtain ⟨bt,ot,rfl,hbt,htc⟩:=(hT.below hQ.bel).at_ (by rw[List.length_map,hW.lt];omega)
   have s4:w.cell? ⟨gs,3+1,none⟩=some (.slice (some ⟨bt,ot,none⟩) F cT):=hQ.blk.cell 4;obtain ⟨T,hTd⟩:∃T,T=tops.getD f 0:=⟨_,rfl⟩
   have t0:w.cell? ⟨bt,ot+f,none⟩=some (.int .i64 T):=htc f _ (by
    rw[hTd,List.getElem?_map,List.getD_eq_getElem?_getD,List.getElem?_eq_getElem (by rw[hW.lt];omega)]
    rfl)
   have HN:=Lib.hid hN;have HTd:=Lib.hid hTd;have Hrv:=Lib.hid hrv;have Hrl:=Lib.hid hrl;clear hQ hM hv hC hK hCK hrv hrl hN htc hTd;go_enter Try.func52,Try.ntmps52
   go_wp2_with fail
   go_loopw [5,7] (fun mv iv' wr=>∃(j:Nat) (K':List Bool),j≤N∧iv'= .int .i64 (j:Int)∧mv= .int .i64 (cellsAt p.plain hs tops c f j)∧Hid (KI (cg p.plain hs) f K K')∧DoneM wr B gc gi F K' c∧Only (fun b=>b=gc∨b=gi) w wr) (fun _ i _=>N-(intOf i).toNat)
   case atStart=>exact ⟨0,K,Nat.zero_le _,rfl,by rw[cellsAt_zero,HTd.out],Lib.hid KI.start,HM.out,Only.refl _ _⟩
   rename World=>wr;obtain ⟨j,K',hj,rfl,rfl,HI,hMr,hB⟩:=hrel;have hQr:=HQ.out.only hB (fun k e=>e.elim (fun e=>by rw[e];exact hS.lc) (fun e=>by rw[e];exact hS.li)) (fun e=>e.elim hS.sc hS.si)
   have HQr:=Lib.hid hQr;have HMr:=Lib.hid hMr;have HB:=Lib.hid hB;clear hMr hB;by_cases hlt:j<N
   ·have g1:(j:Int)<(N:Int):=by omega
    obtain ⟨gg,hgf⟩:∃g,p.fs[f]?=some g:=⟨_,List.getElem?_eq_getElem (by omega)⟩
    have hcl:gg.code.length=N:=by rw[HN.out];exact (PrgM.len_plain hgf).symm
    obtain ⟨i,hi⟩:∃i,gg.code[j]?=some i:=⟨_,List.getElem?_eq_getElem (by rw[hcl];exact hlt)⟩
    have hins:p.plain.ins f j=some i:=by rw[PrgM.ins_plain,hgf,Option.bind_some,hi]
    obtain ⟨rb,ro,rfl,hrb,hrc2⟩:=Hrv.out.at_ (by rw[List.length_map,Hrl.out, ←HN.out];omega)
    obtain ⟨hv,hhv⟩:∃x,x=htAt hs f j:=⟨_,rfl⟩
    have hr0:wr.cell? ⟨rb,ro+j,none⟩=some (.int .i64 hv):=((bcell hQr.bel).1 _ _ hrb).trans<|hrc2 j _ (by
     rw[hhv,List.getElem?_map];unfold htAt;rw[List.getD_eq_getElem?_getD (l:=hs.getD f []),List.getElem?_eq_getElem (by rw[Hrl.out, ←HN.out];exact hlt)]
     rfl)
    have hrbw:rb<wr.heap.size:=by have:=hQr.bel.size;omega
    have hvb:=hW.b f j;rw[←hhv] at hvb;have hP:=hp.below hQr.bel;obtain ⟨b0',off',hA',hb0',-⟩:=hp.fn hgf;obtain ⟨b0,off,hA,hb0,q0,q1,q2,q3,hFn,hFl⟩:=hP.fn hgf;rw[hA] at hA';injection hA' with hA'
    injection hA' with e1 e2
    subst e1 e2;obtain ⟨b1,off1,hA1,hb1,i0,i1,-,-⟩:=hFn.ins hi;have s2:wr.cell? ⟨gs,2,none⟩=some (.slice (some ⟨b0,off,none⟩) F p.cF):=by rw[←hA];exact hQr.blk.cell 2
    have slr:=hQr.blk.lt;rw[hA1,hcl] at q3;have hic:isCall p.plain hs f j=(decide (i.op=17)&&decide (0≤hv)):=by unfold isCall;rw[hins];dsimp only;rw[hhv]
    obtain ⟨wa,hwa⟩:∃w',w'=wr.alloc (.cells #[.int .i64 i.op,.int .i64 i.a] 45):=⟨_,rfl⟩;obtain ⟨gx,hgx⟩:∃g,g=wr.heap.size:=⟨_,rfl⟩;have hba:Below wr.heap.size wr wa:=by rw[hwa];exact (Below.refl _ _).alloc (Nat.le_refl _) _
    have hIa:Blk wa gx 45 #[.int .i64 i.op,.int .i64 i.a]:=by rw[hwa,hgx];exact Blk.new _ _ _
    have Hwa:=Lib.hid hwa;have Hgx:=Lib.hid hgx;have Hic:=Lib.hid hic;have Hins:=Lib.hid hins;have Hhv:=Lib.hid hhv;have HQa:=Lib.hid (hQr.only (Only.of_fresh (S:=fun _=>False) hba) (fun _ e=>e.elim) (fun e=>e));have HMa:=Lib.hid (HMr.out.only (Only.of_fresh (S:=fun _=>False) hba) (fun e=>e) (fun e=>e));have HBa:=Lib.hid (HB.out.trans (Only.of_fresh (S:=fun b=>b=gc∨b=gi) hba));obtain ⟨M,hMd⟩:∃M,M=cellsAt p.plain hs tops c f j:=⟨_,rfl⟩;have HMd:=Lib.hid hMd;rw[←hMd];have ka:wa.cell? ⟨rb,ro+j,none⟩=some (.int .i64 hv):=by rw[(bcell hba).1 _ _ hrbw];exact hr0
    have kal:rb<wa.heap.size:=by have:=hba.size;omega
    have Hne:=Lib.hid (show (¬ (rb=gc∨rb=gi))∧(¬ (gs=gc∨gs=gi))∧(¬ (gx=gc∨gx=gi))∧¬ (b0=gc∨b0=gi) from by
     have h1:=hS.lc;have h2:=hS.li;have h3:=hS.sc;have h4:=hS.si;obtain ⟨C',hC',hK',-⟩:=HMr.out.out;have h5:=(Own.row hC' gc rfl).2;have h6:=(Own.row hK' gi rfl).2;have h7:=hgx;omega)
    have gj2:IntKind.i64.wrap ((j:Int)+1)=(j:Int)+1:=by rw[IntKind.wrap_i64];omega
    obtain ⟨gkc,hgkc⟩:∃m,m=gg.c:=⟨_,rfl⟩;rw[←hgkc] at q3
    have hM0:0≤M∧M≤2000000:=by
     obtain ⟨kk,hk1,hk2⟩:=cellsAt_to (P:=p.plain) (hs:=hs) (tops:=tops) (c:=c) (f:=f) (j:=j) (by rw[←HN.out];omega)
     rw[hMd,hk2];have h1:=cellsTo_le hg hW (c:=c) (f:=f) (B:=26000) (by decide) (fun u hu=>cells_small hg hW ha hc (hr.trans (.one hu))) kk hk1
     omega
    have Hgf:=Lib.hid hgf;have HP0:=Lib.hid hP;have Hpl:=Lib.hid (And.intro hA hb0');have HIa:=Lib.hid hIa;clear hgkc hgf hcl hi hins hhv hrc2 hr0 hP hA hFn hA1 hwa hgx hba hic hMd hIa hQr;obtain ⟨op,a⟩:=i;dsimp only at i0 i1;go_upto_region 9 with (fail)
    rw[←Hwa.out, ←Hgx.out];clear Hwa Hgx i0 i1 hb1 q3 s2 slr q0 q1 q2 hb0;have k0':wa.cell? ⟨gx,0,none⟩=some (.int .i64 op):=HIa.out.cell 0;have k1:wa.cell? ⟨gx,1,none⟩=some (.int .i64 a):=HIa.out.cell 1;have kl:=HIa.out.lt;by_cases h17:op=17
    ·subst h17;by_cases hx1:hv= -1
     ·subst hx1;have hcl:=cellsAt_no (P:=p.plain) (hs:=hs) (tops:=tops) (c:=c) (f:=f) (j:=j) (by rw[Hic.out];simp)
      have Hcl:=Lib.hid (hcl.trans HMd.out.symm);clear hcl;go_wp2_with fail
      exact ⟨⟨j+1,K',by omega,by go_num,by rw[Hcl.out],HI,HMa.out,HBa.out⟩,by simp[intOf];omega⟩
     have hx2:(hv== -1)=false:=by simpa using hx1
     have hic2:isCall p.plain hs f j=true:=by rw[Hic.out];simp;omega
     obtain ⟨i',hi',-,hia,hal2,-⟩:=good_call hg (List.mem_filter.2 ⟨List.mem_range.2 (by rw[←HN.out];exact hlt),hic2⟩)
     rw[Hins.out] at hi';injection hi' with hi'
     subst hi';dsimp only at hia;obtain ⟨G,hG⟩:∃G,G=p.plain.aOf f j:=⟨_,rfl⟩;rw[←hG] at hia hal2;subst hia;have hGF:G<F:=by rw[←hpF];exact hal2
     have hcg:G∈cg p.plain hs f:=List.mem_map.2 ⟨j,List.mem_filter.2 ⟨List.mem_range.2 (by rw[←HN.out];exact hlt),hic2⟩,hG.symm⟩
     obtain ⟨gg2,hga⟩:∃g,p.fs[G]?=some g:=⟨_,List.getElem?_eq_getElem (by omega)⟩
     obtain ⟨b0',off',hA',gb,ga0,-,-,-,-,-⟩:=(hp.below HQa.out.bel).fn hga;rw[Hpl.out.1] at hA';injection hA' with hA'
     injection hA' with e1 e2
     subst e1 e2;have hGA:=good_fn hg.chk (show gg2.plain∈p.plain.fs from List.mem_map.2 ⟨gg2,List.mem_of_getElem? hga,rfl⟩)
     have ha0:0≤gg2.args:=hGA.a0;have ha1:gg2.args≤16:=hGA.a1;obtain ⟨ga,hgad⟩:∃x,x=gg2.args:=⟨_,rfl⟩
     have Hcell:=Lib.hid (show cellsAt p.plain hs tops c f (j+1)=max M (hv-ga+c G) from by
      rw[cellsAt_yes hic2,HMd.out, ←hG, ←Hhv.out,hgad,PrgM.args_plain hga])
     rw[←hgad] at ga0 ha0 ha1;have k4:wa.cell? ⟨gs,2,none⟩=some (.slice (some ⟨b0,off,none⟩) F p.cF):=by rw[←Hpl.out.1];exact HQa.out.blk.cell 2
     have k4l:=HQa.out.blk.lt;have k5:=ga0;have k5l:=gb;have k3:=ka;have k3l:=kal;have hcG:=cells_small hg hW ha hc (hr.trans (.one hcg));have HK:=Lib.hid (ih G K' wa.drew (by have:=rk_lt (show f<p.plain.fs.length by omega) hcg (ha f hr);omega) hGF (hr.trans (.one hcg)) (HQa.out.only (Only.refl (fun _=>False) wa).drew (fun _ e=>e.elim) (fun e=>e)) (HMa.out.only (Only.refl (fun _=>False) wa).drew (fun e=>e) (fun e=>e)))
     have Hcg:=Lib.hid hcg;have Hn:=Hne;have hwr:IntKind.i64.wrap (hv-ga)=hv-ga:=by rw[IntKind.wrap_i64];omega
     have hwr2:IntKind.i64.wrap (hv-ga+c G)=hv-ga+c G:=by rw[IntKind.wrap_i64];omega
     have gGF:(G:Int)<(F:Int):=by omega
     clear ka kal hcg hga hGA hgad hG hic2 ga0 gb;go_upto_region 10 with (fail)
     obtain ⟨SC,hSCd⟩:∃S:World→Prop,S=fun w'=>(w'.cell? ⟨rb,ro+j,none⟩=some (.int .i64 hv)∧rb<w'.heap.size)∧(w'.cell? ⟨gs,2,none⟩=some (.slice (some ⟨b0,off,none⟩) F p.cF)∧gs<w'.heap.size)∧(w'.cell? ⟨gx,1,none⟩=some (.int .i64 (G:Int))∧gx<w'.heap.size)∧(w'.cell? ⟨b0,off+G*4,none⟩=some (.int .i64 ga)∧b0<w'.heap.size):=⟨_,rfl⟩;have hSC:SC wa.drew:=by rw[hSCd];exact ⟨⟨k3,k3l⟩,⟨k4,k4l⟩,⟨k1,kl⟩,⟨k5,k5l⟩⟩
     have HSC:=Lib.hid (show SC wa.drew from hSC)
     have HSd:=Lib.hid hSCd;clear hSC hSCd;refine region_heldT 21 SC (by kernel_rfl) (by decide) ?_
     refine hwA 0 (.slice (some ⟨rb,ro,none⟩) N cR) HSC.out ?_;simp only[Act.put,List.setIfInBounds_toArray];refine hwA 1 (.int .i64 (j:Int)) HSC.out ?_;simp only[Act.put];refine hwA 2 (.pointer (some ⟨rb,ro+j,none⟩)) HSC.out ?_;simp only[Act.put];try simp only[List.getElem_toArray,List.getElem_cons_succ,List.getElem_cons_zero,List.setIfInBounds_toArray,List.set_cons_succ,List.set_cons_zero]
     refine hwA 3 (.int .i64 hv) HSC.out ?_;simp only[Act.put];refine hwA 4 (.pointer (some ⟨gs,0,none⟩)) HSC.out ?_;simp only[Act.put];refine hwA 5 (.pointer (some ⟨gs,0,none⟩)) HSC.out ?_;simp only[Act.put];try simp only[List.getElem_toArray,List.getElem_cons_succ,List.getElem_cons_zero,List.setIfInBounds_toArray,List.set_cons_succ,List.set_cons_zero]
     refine hwA 6 (.pointer (some ⟨gs,0,none⟩)) HSC.out ?_;simp only[Act.put];refine hwA 7 (.pointer (some ⟨gs,2,none⟩)) HSC.out ?_;simp only[Act.put];refine hwA 8 (.slice (some ⟨b0,off,none⟩) F p.cF) HSC.out ?_;simp only[Act.put];try simp only[List.getElem_toArray,List.getElem_cons_succ,List.getElem_cons_zero,List.setIfInBounds_toArray,List.set_cons_succ,List.set_cons_zero]
     refine hwA 9 (.pointer (some ⟨gx,1,none⟩)) HSC.out ?_;simp only[Act.put];refine hwA 10 (.int .i64 (G:Int)) HSC.out ?_;simp only[Act.put];refine hwA 11 (.pointer (some ⟨b0,off+G*4,none⟩)) HSC.out ?_;simp only[Act.put];try simp only[List.getElem_toArray,List.getElem_cons_succ,List.getElem_cons_zero,List.setIfInBounds_toArray,List.set_cons_succ,List.set_cons_zero]
     refine hwA 12 (.pointer (some ⟨b0,off+G*4,none⟩)) HSC.out ?_;simp only[Act.put];refine hwA 13 (.int .i64 ga) HSC.out ?_;simp only[Act.put];refine hwA 14 (.int .i64 (hv-ga)) HSC.out ?_;simp only[Act.put];try simp only[List.getElem_toArray,List.getElem_cons_succ,List.getElem_cons_zero,List.setIfInBounds_toArray,List.set_cons_succ,List.set_cons_zero]
     refine hwA 15 (.pointer (some ⟨gs,0,none⟩)) HSC.out ?_;simp only[Act.put];refine hwA 16 (.pointer (some ⟨gx,1,none⟩)) HSC.out ?_;simp only[Act.put];refine hwA 17 (.int .i64 (G:Int)) HSC.out ?_;simp only[Act.put];try simp only[List.getElem_toArray,List.getElem_cons_succ,List.getElem_cons_zero,List.setIfInBounds_toArray,List.set_cons_succ,List.set_cons_zero]
     try simp only[List.getElem_toArray,List.getElem_cons_succ,List.getElem_cons_zero,List.setIfInBounds_toArray,List.set_cons_succ,List.set_cons_zero]
     refine hwO 18 fun K hK=>?_;go_simp;refine HK.out.mono ?_;rintro e w2 ⟨rfl,K2,hP2,hM2,hO2⟩;have HP2:=Lib.hid hP2;have HM2:=Lib.hid hM2;have HO2:=Lib.hid hO2
     have hSC2:SC w2:=by
      have h:=HSC.out;rw[HSd.out] at h ⊢;obtain ⟨⟨e0,l0⟩,⟨e1,l1⟩,⟨e2,l2⟩,⟨e3,l3⟩⟩:=h;have hz:=hO2.size;refine ⟨⟨(hO2.cell l0 Hn.out.1).trans e0,by omega⟩,⟨(hO2.cell l1 Hn.out.2.1).trans e1,by omega⟩,⟨(hO2.cell l2 Hn.out.2.2.1).trans e2,by omega⟩,⟨(hO2.cell l3 Hn.out.2.2.2).trans e3,by omega⟩⟩
     refine hK.out _ _ hSC2 (fun hHeld=>?_);clear hK K hHeld hP2 hM2 hO2;refine hwO 19 fun K hK=>?_;go_simp;refine hK.out _ _ hSC2 (fun hHeld=>?_);clear hK K hHeld;refine hwO 20 fun K hK=>?_;go_simp;refine hK.out _ _ hSC2 (fun hHeld=>?_);clear hK K hHeld hSC2;refine fun _=>⟨by kernel_rfl,?_⟩
     simp only[List.drop_succ_cons,List.drop_zero];clear HSC HSd;clear SC;by_cases hmx:M<hv-ga+c G
     ·have Hc2:=Lib.hid (show cellsAt p.plain hs tops c f (j+1)=hv-ga+c G from by rw[Hcell.out];omega)
      go_wp2_with fail
      exact ⟨⟨j+1,K2,by omega,by go_num,by rw[Hc2.out],Lib.hid (HI.out.step Hcg.out HP2.out),HM2.out,HBa.out.trans ((Only.refl _ wa).drew.trans HO2.out)⟩,by simp[intOf];omega⟩
     have Hc2:=Lib.hid (show cellsAt p.plain hs tops c f (j+1)=M from by rw[Hcell.out];omega)
     go_wp2_with fail
     exact ⟨⟨j+1,K2,by omega,by go_num,by rw[Hc2.out],Lib.hid (HI.out.step Hcg.out HP2.out),HM2.out,HBa.out.trans ((Only.refl _ wa).drew.trans HO2.out)⟩,by simp[intOf];omega⟩
    have h17b:(op==17)=false:=by simpa using h17
    have h17c:(op != 17)=true:=by simpa using h17
    have Hcl:=Lib.hid ((cellsAt_no (P:=p.plain) (hs:=hs) (tops:=tops) (c:=c) (f:=f) (j:=j) (by rw[Hic.out];simp[h17])).trans HMd.out.symm)
    go_wp2_with fail
    exact ⟨⟨j+1,K',by omega,by go_num,by rw[Hcl.out],HI,HMa.out,HBa.out⟩,by simp[intOf];omega⟩
   obtain rfl:j=N:=by omega
   obtain ⟨C',hC',hK',hCl',hKl',hCK'⟩:=HMr.out.out;have s11r:wr.cell? ⟨gs,11,none⟩=some (.slice (some ⟨gi,0,none⟩) F F):=HQr.out.blk.cell 11;have slr:=HQr.out.blk.lt;have c1:=OwnL.at_ hK' f (by omega)
   obtain ⟨cf1,cl1⟩:=OwnL.room hK' f (by omega)
   generalize K'[f]'(by omega)=kv at c1
   have HO13:=Lib.hid (show OwnI (wr.setCell ⟨gi,f,none⟩ (.bool true)) B (some ⟨gc,0,none⟩) F F C'∧OwnL (wr.setCell ⟨gi,f,none⟩ (.bool true)) B (some ⟨gi,0,none⟩) F F (K'.set f true)∧Only (fun b=>b=gc∨b=gi) w (wr.setCell ⟨gi,f,none⟩ (.bool true)) from
    ⟨Own.fars hC' (fun e=>by injection e with e;exact hS.ci e) _,OwnL.put hK' f true,HB.out.setCell (p:=⟨gi,f,none⟩) (.inl (.inr rfl)) _⟩)
   have HCK:=Lib.hid (show C'.length=F∧K'.length=F∧∀i:Nat,K'[i]?=some true→C'[i]?=some (c i) from ⟨hCl',hKl',hCK'⟩)
   obtain ⟨M,hMd⟩:∃M,M=cellsAt p.plain hs tops c f j:=⟨_,rfl⟩
   have hM0:0≤M∧M≤2000000:=by
    obtain ⟨kk,hk1,hk2⟩:=cellsAt_to (P:=p.plain) (hs:=hs) (tops:=tops) (c:=c) (f:=f) (j:=j) (by rw[←HN.out];exact Nat.le_refl _)
    rw[hMd,hk2];have h1:=cellsTo_le hg hW (c:=c) (f:=f) (B:=26000) (by decide) (fun u hu=>cells_small hg hW ha hc (hr.trans (.one hu))) kk hk1
    omega
   obtain ⟨gg,hgf⟩:∃g,p.fs[f]?=some g:=⟨_,List.getElem?_eq_getElem (by omega)⟩
   obtain ⟨L,hL⟩:∃L,L=gg.locals:=⟨_,rfl⟩;have hGA:=good_fn hg.chk (show gg.plain∈p.plain.fs from List.mem_map.2 ⟨gg,List.mem_of_getElem? hgf,rfl⟩)
   have hL0:0≤L∧L≤64:=by
    have h1:=hGA.a0;have h2:=hGA.l0;have h3:=hGA.l1;change 0≤gg.args at h1
    change gg.args≤gg.locals at h2
    change gg.locals≤64 at h3
    rw[hL];exact ⟨Int.le_trans h1 h2,h3⟩
   have hcf:c f=1+L+M:=by
    rw[hc f (by omega) hr,hMd,HN.out,cellsAt_len,Prg.locals_of (show p.plain.fs[f]?=some gg.plain from by unfold PrgM.plain;rw[List.getElem?_map,hgf];rfl),hL]
    rfl
   rw[←hMd];have HMd:=Lib.hid hMd;have Hcf:=Lib.hid hcf;have HL:=Lib.hid hL;have Hgf:=Lib.hid hgf;clear hC' hK' hCl' hKl' hCK' hMd hcf hgf hL hGA;go_upto_region 14 with (fail)
   generalize wr.setCell ⟨gi,f,none⟩ (.bool true)=wb at*
   clear s11r slr c1 cf1 cl1;have hQb:=HQ.out.only HO13.out.2.2 (fun k e=>e.elim (fun e=>by rw[e];exact hS.lc) (fun e=>by rw[e];exact hS.li)) (fun e=>e.elim hS.sc hS.si)
   obtain ⟨b0,off,hA,hb0,-⟩:=hp.fn Hgf.out;obtain ⟨b0',off',hA',n0l,q0,q1,-,-,-,-⟩:=(hp.below hQb.bel).fn Hgf.out;rw[hA] at hA';injection hA' with hA'
   injection hA' with e1 e2
   subst e1 e2;have n0:wb.cell? ⟨b0,off+f*4+1,none⟩=some (.int .i64 L):=by rw[HL.out];exact q1
   have n9:wb.cell? ⟨gs,9,none⟩=some (.slice (some ⟨gc,0,none⟩) F F):=hQb.blk.cell 9;have n2:wb.cell? ⟨gs,2,none⟩=some (.slice (some ⟨b0,off,none⟩) F p.cF):=by rw[←hA];exact hQb.blk.cell 2
   have nl:=hQb.blk.lt;have Hq:=Lib.hid (show ¬ gs=gc∧¬ b0=gc from ⟨hS.sc,fun e=>by have:=hS.lc;omega⟩)
   have hwr1:IntKind.i64.wrap (1+L)=1+L:=by rw[IntKind.wrap_i64];omega
   have hwr2:IntKind.i64.wrap (1+L+M)=1+L+M:=by rw[IntKind.wrap_i64];omega
   clear hQb hA q0 q1;go_cut [] from 98 to 115 (fun wx=>OwnI wx B (some ⟨gc,0,none⟩) F F (C'.set f (1+L+M))∧OwnL wx B (some ⟨gi,0,none⟩) F F (K'.set f true)∧Only (fun b=>b=gc∨b=gi) w wx)
   case first=>
    have c2:=OwnI.at_ HO13.out.1 f (by have:=HCK.out.1;omega)
    obtain ⟨cf2,cl2⟩:=OwnI.room HO13.out.1 f (by have:=HCK.out.1;omega)
    generalize C'[f]'(by have:=HCK.out.1;omega)=cv at c2
    have HO14:=Lib.hid (show OwnI ((wb.setCell ⟨gc,f,none⟩ (.int .i64 (1+L+M))).drew) B (some ⟨gc,0,none⟩) F F (C'.set f (1+L+M))∧OwnL ((wb.setCell ⟨gc,f,none⟩ (.int .i64 (1+L+M))).drew) B (some ⟨gi,0,none⟩) F F (K'.set f true)∧Only (fun b=>b=gc∨b=gi) w ((wb.setCell ⟨gc,f,none⟩ (.int .i64 (1+L+M))).drew) from
     ⟨OwnI.put HO13.out.1 f _,Own.fars HO13.out.2.1 (fun e=>by injection e with e;exact hS.ci e.symm) _,(HO13.out.2.2.setCell (p:=⟨gc,f,none⟩) (.inl (.inl rfl)) _).drew⟩)
    obtain ⟨SC,hSCd⟩:∃S:World→Prop,S=fun w'=>(w'.cell? ⟨gs,9,none⟩=some (.slice (some ⟨gc,0,none⟩) F F)∧w'.cell? ⟨gs,2,none⟩=some (.slice (some ⟨b0,off,none⟩) F p.cF)∧gs<w'.heap.size)∧(w'.cell? ⟨b0,off+f*4+1,none⟩=some (.int .i64 L)∧b0<w'.heap.size):=⟨_,rfl⟩;have hSC:SC wb.drew:=by rw[hSCd];exact ⟨⟨n9,n2,nl⟩,⟨n0,n0l⟩⟩
    have HSC:=Lib.hid (show SC wb.drew from hSC)
    have HSd:=Lib.hid hSCd;clear hSC hSCd;refine region_heldT 19 SC (by kernel_rfl) (by decide) ?_
    refine hwA 0 (.pointer (some ⟨gs,0,none⟩)) HSC.out ?_;simp only[Act.put,List.setIfInBounds_toArray];refine hwA 1 (.pointer (some ⟨gs,0,none⟩)) HSC.out ?_;simp only[Act.put];refine hwA 2 (.pointer (some ⟨gs,9,none⟩)) HSC.out ?_;simp only[Act.put];try simp only[List.getElem_toArray,List.getElem_cons_succ,List.getElem_cons_zero,List.setIfInBounds_toArray,List.set_cons_succ,List.set_cons_zero]
    refine hwA 3 (.slice (some ⟨gc,0,none⟩) F F) HSC.out ?_;simp only[Act.put];refine hwA 4 (.int .i64 (f:Int)) HSC.out ?_;simp only[Act.put];refine hwA 5 (.pointer (some ⟨gs,0,none⟩)) HSC.out ?_;simp only[Act.put];try simp only[List.getElem_toArray,List.getElem_cons_succ,List.getElem_cons_zero,List.setIfInBounds_toArray,List.set_cons_succ,List.set_cons_zero]
    refine hwA 6 (.pointer (some ⟨gs,0,none⟩)) HSC.out ?_;simp only[Act.put];refine hwA 7 (.pointer (some ⟨gs,0,none⟩)) HSC.out ?_;simp only[Act.put];refine hwA 8 (.pointer (some ⟨gs,2,none⟩)) HSC.out ?_;simp only[Act.put];try simp only[List.getElem_toArray,List.getElem_cons_succ,List.getElem_cons_zero,List.setIfInBounds_toArray,List.set_cons_succ,List.set_cons_zero]
    refine hwA 9 (.slice (some ⟨b0,off,none⟩) F p.cF) HSC.out ?_;simp only[Act.put];refine hwA 10 (.int .i64 (f:Int)) HSC.out ?_;simp only[Act.put];refine hwA 11 (.pointer (some ⟨b0,off+f*4,none⟩)) HSC.out ?_;simp only[Act.put];try simp only[List.getElem_toArray,List.getElem_cons_succ,List.getElem_cons_zero,List.setIfInBounds_toArray,List.set_cons_succ,List.set_cons_zero]
    refine hwA 12 (.pointer (some ⟨b0,off+f*4+1,none⟩)) HSC.out ?_;simp only[Act.put];refine hwA 13 (.int .i64 L) HSC.out ?_;simp only[Act.put];refine hwA 14 (.int .i64 (1+L)) HSC.out ?_;simp only[Act.put];try simp only[List.getElem_toArray,List.getElem_cons_succ,List.getElem_cons_zero,List.setIfInBounds_toArray,List.set_cons_succ,List.set_cons_zero]
    refine hwA 15 (.int .i64 M) HSC.out ?_;simp only[Act.put];refine hwA 16 (.int .i64 (1+L+M)) HSC.out ?_;simp only[Act.put];refine hwA 17 (.pointer (some ⟨gc,f,none⟩)) HSC.out ?_;simp only[Act.put];try simp only[List.getElem_toArray,List.getElem_cons_succ,List.getElem_cons_zero,List.setIfInBounds_toArray,List.set_cons_succ,List.set_cons_zero]
    try simp only[List.getElem_toArray,List.getElem_cons_succ,List.getElem_cons_zero,List.setIfInBounds_toArray,List.set_cons_succ,List.set_cons_zero]
    refine hwO 18 fun K hK=>?_;go_simp
    have hSC2:SC ((wb.setCell ⟨gc,f,none⟩ (.int .i64 (1+L+M))).drew):=by
     have h:=HSC.out;rw[HSd.out] at h ⊢;obtain ⟨⟨e0,e1,l1⟩,⟨e2,l2⟩⟩:=h;have hO:Only (fun b=>b=gc) wb.drew ((wb.setCell ⟨gc,f,none⟩ (.int .i64 (1+L+M))).drew):=(Only.refl (fun b=>b=gc) wb.drew).setCell (p:=⟨gc,f,none⟩) (.inl rfl) _;have hz:=hO.size;exact ⟨⟨(hO.cell l1 Hq.out.1).trans e0,(hO.cell l1 Hq.out.1).trans e1,by omega⟩,(hO.cell l2 Hq.out.2).trans e2,by omega⟩
    refine hK.out _ _ hSC2 (fun hHeld=>?_);clear hK K hHeld hSC2;refine fun _=>⟨by kernel_rfl,?_⟩
    simp only[List.drop_succ_cons,List.drop_zero];clear HSC HSd;clear SC;go_wp2_with fail
    go_meet;case rel=>exact HO14.out
   case rest=>
   rename World=>wd;obtain ⟨hC2,hK2,hO2⟩:=hcut;have hQd:=HQ.out.only hO2 (fun k e=>e.elim (fun e=>by rw[e];exact hS.lc) (fun e=>by rw[e];exact hS.li)) (fun e=>e.elim hS.sc hS.si)
   have m9:wd.cell? ⟨gs,9,none⟩=some (.slice (some ⟨gc,0,none⟩) F F):=hQd.blk.cell 9;have ml:=hQd.blk.lt
   have c3:wd.cell? ⟨gc,f,none⟩=some (.int .i64 (1+L+M)):=by
    have h1:=OwnI.at_ hC2 f (by rw[List.length_set,HCK.out.1];exact hf)
    rw[List.getElem_set_self] at h1;exact h1
   have cl3:=(OwnI.room hC2 f (by rw[List.length_set,HCK.out.1];exact hf)).2
   have HF:=Lib.hid (show CellsPost p.plain hs B gc gi F f K c w (.returned (.int .i64 (1+L+M))) wd from
    ⟨by rw[Hcf.out],K'.set f true,HI.out.fin (by omega),⟨C'.set f (1+L+M),hC2,hK2,by rw[List.length_set];exact HCK.out.1,by rw[List.length_set];exact HCK.out.2.1,fun i hi=>by
     by_cases e:f=i
     ·subst e;rw[List.getElem?_set_self (by rw[HCK.out.1];exact hf),Hcf.out]
     rw[List.getElem?_set_ne e] at hi ⊢;exact HCK.out.2.2 i hi⟩,hO2⟩)
   clear hC2 hK2 hO2 hQd n0 n0l n9 n2 nl;go_wp2_with fail
   go_ret
   exact HF.out
end Go.Proofs.Ytcmpmhlcfalbhaa
