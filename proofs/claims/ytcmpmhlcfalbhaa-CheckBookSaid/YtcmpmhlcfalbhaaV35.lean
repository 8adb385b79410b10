import Derived.Test.YtcmpmhlcfalbhaaV11
import Derived.Test.YtcmpmhlcfalbhaaV31
import Derived.Carry
namespace Go.Proofs.Ytcmpmhlcfalbhaa
open Go.RowKit
def RunPost (P:Prg) (w:World) (e:Ending) (w':World):Prop:=
 Below w.heap.size w w'∧((∃x,BadAt P x∧e= .returned (.tuple #[zFacts,faultV (some x)]))∨
  ∃hs tops lps live ce co HR LR AH cH AT cT AL cL gL,FactsOk P hs tops lps live ce co∧RunM w' w.heap.size hs lps tops HR LR AH cH AT cT AL cL∧OwnL w' w.heap.size (some ⟨gL,0,none⟩) live.length live.length live∧
   e= .returned (.tuple #[.agg #[.slice AH hs.length cH,.slice AT tops.length cT,.slice AL lps.length cL,.slice (some ⟨gL,0,none⟩) live.length live.length,.int .i64 ce,.int .i64 co],faultV none]))
abbrev z6:Array Value:=#[.slice none 0 0,.slice none 0 0,.slice none 0 0,.slice none 0 0,.int .i64 0,.int .i64 0]
theorem store9 (w:World) (gR gE:Nat) (cs es:Array Value) (hR:Blk w gR 32 cs) (hE:Blk w gE 37 es) (hc:cs.size=6) (he:es.size=3) (hne:gR≠gE) (v0 v1 v2 v3 v4 v5 f0 f1 f2:Value):
  let W:=((((((((w.setCell ⟨gR,0,none⟩ v0).setCell ⟨gR,1,none⟩ v1).setCell ⟨gR,2,none⟩ v2).setCell ⟨gR,3,none⟩ v3).setCell ⟨gR,4,none⟩ v4).setCell ⟨gR,5,none⟩ v5).setCell ⟨gE,0,none⟩ f0).setCell ⟨gE,1,none⟩ f1).setCell ⟨gE,2,none⟩ f2
  Blk W gR 32 #[v0,v1,v2,v3,v4,v5]∧Blk W gE 37 #[f0,f1,f2]∧Only (fun k=>k=gR∨k=gE) w W:=by
 obtain ⟨cs⟩:=cs
 obtain ⟨es⟩:=es
 match cs,hc with
 |[a0,a1,a2,a3,a4,a5],_=>
  match es,he with
  |[b0,b1,b2],_=>
   intro W;have h0:=Blk.setL (cs:=[a0,a1,a2,a3,a4,a5]) hR 0 v0;have h1:=Blk.setL (cs:=[v0,a1,a2,a3,a4,a5]) h0 1 v1;have h2:=Blk.setL (cs:=[v0,v1,a2,a3,a4,a5]) h1 2 v2;have h3:=Blk.setL (cs:=[v0,v1,v2,a3,a4,a5]) h2 3 v3;have h4:=Blk.setL (cs:=[v0,v1,v2,v3,a4,a5]) h3 4 v4;have h5:=Blk.setL (cs:=[v0,v1,v2,v3,v4,a5]) h4 5 v5
   have k5:Blk (((((w.setCell ⟨gR,0,none⟩ v0).setCell ⟨gR,1,none⟩ v1).setCell ⟨gR,2,none⟩ v2).setCell ⟨gR,3,none⟩ v3).setCell ⟨gR,4,none⟩ v4 |>.setCell ⟨gR,5,none⟩ v5) gE 37 #[b0,b1,b2]:=
    (((((hE.far (p:=⟨gR,0,none⟩) hne.symm _).far (p:=⟨gR,1,none⟩) hne.symm _).far (p:=⟨gR,2,none⟩) hne.symm _).far (p:=⟨gR,3,none⟩) hne.symm _).far (p:=⟨gR,4,none⟩) hne.symm _).far (p:=⟨gR,5,none⟩) hne.symm _
   have k6:=Blk.setL (cs:=[b0,b1,b2]) k5 0 f0;have k7:=Blk.setL (cs:=[f0,b1,b2]) k6 1 f1;have k8:=Blk.setL (cs:=[f0,f1,b2]) k7 2 f2;refine ⟨((h5.far (p:=⟨gE,0,none⟩) hne _).far (p:=⟨gE,1,none⟩) hne _).far (p:=⟨gE,2,none⟩) hne _,k8,?_⟩;exact (((((((((Only.refl (fun k=>k=gR∨k=gE) w).setCell (p:=⟨gR,0,none⟩) (.inl (.inl rfl)) _).setCell (p:=⟨gR,1,none⟩) (.inl (.inl rfl)) _).setCell (p:=⟨gR,2,none⟩) (.inl (.inl rfl)) _).setCell (p:=⟨gR,3,none⟩) (.inl (.inl rfl)) _).setCell (p:=⟨gR,4,none⟩) (.inl (.inl rfl)) _).setCell (p:=⟨gR,5,none⟩) (.inl (.inl rfl)) _).setCell (p:=⟨gE,0,none⟩) (.inl (.inr rfl)) _).setCell (p:=⟨gE,1,none⟩) (.inl (.inr rfl)) _).setCell (p:=⟨gE,2,none⟩) (.inl (.inr rfl)) _
theorem firstP_ne {P:Prg} {l:List Fun} {k:Nat} {x:Int×Int×Int} (h:firstP P l k=some x):x.1≠0:=by
 induction l generalizing k with
 |nil=>cases h
 |cons g l ih=>
  unfold firstP at h
  have key:∀(l:List Ins) (n:Nat) (e:Int) (m:Nat),firstI (badOp P g) l n=some (e,m)→e≠0:=by
   intro l;induction l with
   |nil=>intro n e m h;cases h
   |cons i l ih=>
    intro n e m h;unfold firstI at h;by_cases h0:badOp P g i=0
    ·rw[if_pos h0] at h;exact ih _ _ _ h
    rw[if_neg h0] at h;injection h with h;injection h with h1 h2;rw[←h1];exact h0
  cases hf:firstI (badOp P g) g.code 0 with
  |none=>rw[hf] at h;exact ih h
  |some y=>
   rw[hf] at h;unfold joinF at h;injection h with h
   rw[←h];exact key _ _ _ _ hf
theorem row_info13:(Try.prog.info? 29).map (fun i=>(i.zero,i.size,i.bytes))=some (some (.slice none 0 0),1,24):=by kernel_rfl
theorem eIRow:Elem Try.prog 28 29 1 24:=elem_of Try.underlying28 row_info13 rfl (by decide)
theorem own_pos {w:World} {base n c:Nat} {e:TypeId} {A:Option Addr} {vs:List Value} (h:Own w base e 1 A n c vs) (hn:0<n):∃g,A=some ⟨g,0,none⟩∧base≤g∧g<w.heap.size∧∀j u,vs[j]?=some u→w.cell? ⟨g,j,none⟩=some u:=by
 obtain ⟨g,rfl,h1,h2⟩:=ownG_some h hn;refine ⟨g,rfl,h1,h2,fun j u hu=>?_⟩;obtain ⟨hj,hju⟩:=List.getElem?_eq_some_iff.1 hu;rw[(ownG_at h j hj).1,hju]
theorem Own.rebase {w:World} {base base' size n c g:Nat} {e:TypeId} {vs:List Value} (h:Own w base e size (some ⟨g,0,none⟩) n c vs) (hg:base'≤g):Own w base' e size (some ⟨g,0,none⟩) n c vs:=by
 refine ⟨h.1,?_⟩;rcases h.2 with ⟨hv,-⟩|⟨g2,cap,cur,hv,h1,h2⟩
 ·cases hv
 have e:g2=g:=by injection hv with h3;injection h3 with h3;injection h3 with h3;exact h3.symm
 subst e;exact .inr ⟨g2,cap,cur,hv,hg,h2⟩
theorem getD_get {α:Type} {l:List α} {f:Nat} {d:α} (h:f<l.length):l.getD f d=l[f]:=by rw[List.getD_eq_getElem?_getD,List.getElem?_eq_getElem h];rfl
section
variable {w:World} {B:Nat} {hs lps:List (List Int)} {tops:List Int} {HR LR:List (LG×List Value)} {AH AT AL:Option Addr} {cH cT cL:Nat}
theorem rows_at {w:World} {B c:Nat} {ls:List (List Int)} {R:List (LG×List Value)} {A:Option Addr} (hh:R.map (·.2)=ls.map (·.map iv)) (hs:SoleG w B 3 1 R) (ho:Own w B 29 1 A R.length c (hdrs R)) {f:Nat} (hf:f<ls.length):
  ∃(b:Nat) (r:LG),A=some ⟨b,0,none⟩∧B≤b∧b<w.heap.size∧w.cell? ⟨b,f,none⟩=some (.slice r.A (ls.getD f []).length r.c)∧OwnI w B r.A (ls.getD f []).length r.c (ls.getD f []):=by
 have hl:R.length=ls.length:=by simpa using congrArg List.length hh
 obtain ⟨b,hA,h1,h2,hc⟩:=own_pos ho (by omega)
 have hR:R[f]?=some R[f]:=List.getElem?_eq_getElem (by omega)
 have hv:R[f].2=(ls.getD f []).map iv:=by
  have e:(R.map (·.2))[f]?=(ls.map (·.map iv))[f]?:=by rw[hh]
  rw[List.getElem?_map,List.getElem?_map,hR,List.getElem?_eq_getElem hf] at e;rw[getD_get hf];simpa using e
 have hO:=hs.own R[f] (List.getElem_mem _)
 have hn:R[f].1.n=(ls.getD f []).length:=by
  have h:=hO.1;rw[hv,List.length_map] at h;omega
 refine ⟨b,R[f].1,hA,h1,h2,?_,?_⟩
 ·rw[←hn];exact hc f _ (by unfold hdrs;rw[List.getElem?_map,hR];rfl)
 ·rw[hv,hn] at hO;exact hO
theorem RunM.fm {P:Prg} {n bx:Nat} (h:RunM w B hs lps tops HR LR AH cH AT cT AL cL) (hn:n=hs.length) (ht:n=tops.length) (hlen:∀f,f<n→(hs.getD f []).length=P.len f) (hpos:∀f,f<n→0<P.len f) {t:TypeId} {cs:Array Value} (hX:Blk w bx t cs) (h1:3≠t) (h2:29≠t):FM w bx P hs tops AH AT n:=by
 refine ⟨fun f hf=>?_,fun f hf=>?_⟩
 ·obtain ⟨b,r,hA,-,hb,hc,hO⟩:=rows_at h.hh h.sh h.oh (show f<hs.length by omega)
  rw[hlen f hf] at hc hO;obtain ⟨rb,hrA,-,hrb,hrc⟩:=own_pos hO (hpos f hf);refine ⟨b,0,rb,0,r.c,hA,own_blk_ne h.oh hX h2 b (by rw[hA];rfl),hb,by rw[Nat.zero_add, ←hrA];exact hc,own_blk_ne hO hX h1 rb (by rw[hrA];rfl),hrb,fun j hj=>?_⟩
  rw[Nat.zero_add];have hjl:j<(hs.getD f []).length:=by rw[hlen f hf];exact hj
  refine hrc j _ ?_;rw[List.getElem?_map,List.getElem?_eq_getElem hjl];unfold htAt;rw[getD_get hjl];rfl
 obtain ⟨b,hA,-,hb,hc⟩:=own_pos h.ot (by omega)
 refine ⟨b,0,hA,own_blk_ne h.ot hX h1 b (by rw[hA];rfl),hb,?_⟩
 rw[Nat.zero_add];have hft:f<tops.length:=by omega
 refine hc f _ ?_;rw[List.getElem?_map,List.getElem?_eq_getElem hft,getD_get hft];rfl
theorem RunM.lm {n bx:Nat} (h:RunM w B hs lps tops HR LR AH cH AT cT AL cL) (hn:n=lps.length) {t:TypeId} {cs:Array Value} (hX:Blk w bx t cs) (h2:29≠t):LM w bx lps AL n:=fun f hf=>by
 obtain ⟨b,r,hA,-,hb,hc,hO⟩:=rows_at h.hl h.sl h.ol (show f<lps.length by omega)
 exact ⟨b,0,r.A,r.c,hA,own_blk_ne h.ol hX h2 b (by rw[hA];rfl),hb,by rw[Nat.zero_add];exact hc⟩
end
theorem top_bnd {P:Prg} (hg:checkL P=0) {f:Nat} {h:List Int} {t:Int} (hF:HFin P f h) (hT:TopF P f h t):0≤t∧t≤300:=by
 refine ⟨hT.pos,?_⟩;rcases hT.is with h0|⟨j,x,h1,h2,h3⟩
 ·omega
 have hb:=hF.bnd j x h1;obtain ⟨i,hi⟩:=Prg.ins_ex (P:=P) (f:=f) (n:=j) (by rw[←hF.len];exact (List.getElem?_eq_some_iff.1 h1).1)
 have hI:=ins_facts hg hi;have:=hI.t0;have:=hI.g1;omega
attribute [local go_sem] run_makeMap
set_option maxRecDepth 100000 in
set_option maxHeartbeats 1000000 in
theorem run_any (p:PrgM) (w:World) (hp:PrgAt w p):Calls Try.prog 13 #[p.val] w (RunPost p.plain w):=by
 obtain ⟨w1,hw1⟩:∃w1,w1=((w.alloc (.cells #[.int .i64 p.mem,.slice p.AD p.data.length p.cD,.slice p.AF p.fs.length p.cF] 26)).alloc (.cells z6 32)).alloc (.cells #[.int .i64 0,.int .i64 0,.int .i64 0] 37):=⟨_,rfl⟩;have hb1:Below w.heap.size w w1:=by rw[hw1];exact (((Below.refl _ _).alloc (Nat.le_refl _) _).alloc (by simp) _).alloc (by simp;omega) _
 have hz1:w1.heap.size=w.heap.size+3:=by rw[hw1];simp
 have hB3:=blk3 w #[.int .i64 p.mem,.slice p.AD p.data.length p.cD,.slice p.AF p.fs.length p.cF] z6 #[.int .i64 0,.int .i64 0,.int .i64 0] 26 32 37;rw[←hw1] at hB3;obtain ⟨gx,hgx⟩:∃g,g=w.heap.size:=⟨_,rfl⟩;obtain ⟨gR,hgR⟩:∃g,g=w.heap.size+1:=⟨_,rfl⟩;obtain ⟨gE,hgE⟩:∃g,g=w.heap.size+1+1:=⟨_,rfl⟩;rw[←hgE, ←hgR, ←hgx] at hB3;obtain ⟨hBx,hBR,hBE⟩:=hB3;have Hg:=Lib.hid (show gx=w.heap.size∧gR=w.heap.size+1∧gE=w.heap.size+1+1∧w1.heap.size=w.heap.size+3 from ⟨hgx,hgR,hgE,hz1⟩)
 have hP1:=hp.below hb1;have x0:w1.cell? ⟨gx,0,none⟩=some (.int .i64 p.mem):=hBx.cell 0;have x1:w1.cell? ⟨gx,1,none⟩=some (.slice p.AD p.data.length p.cD):=hBx.cell 1;have x2:w1.cell? ⟨gx,2,none⟩=some (.slice p.AF p.fs.length p.cF):=hBx.cell 2;have xl:=hBx.lt;have HP:=Lib.hid hp;have HP1:=Lib.hid hP1;have HB1:=Lib.hid hb1;have Hw1:=Lib.hid hw1;have HBx:=Lib.hid hBx;have HBR:=Lib.hid hBR;have HBE:=Lib.hid hBE;have HCk:=Lib.hid (check_any p w1 hP1);clear hp hP1 hb1 hw1 hgx hgR hgE hz1 hBx hBR hBE;go_enter Try.func13,Try.ntmps13
 go_wp2_with (refine wpList_at 12 rfl ?_;refine wp_stop ?_)
 try refine ⟨?_⟩
 rw[←Hw1.out, ←Hg.out.2.2.1, ←Hg.out.2.1, ←Hg.out.1];clear Hw1;go_wp2_with fail
 refine HCk.out.mono ?_;rintro e w2 ⟨rfl,hb2⟩;obtain ⟨ck,hck⟩:∃x,x=checkL p.plain:=⟨_,rfl⟩;rw[←hck];have hb12:=HB1.out.trans (hb2.mono (HB1.out.size));have HB2:=Lib.hid hb12;have Hb2:=Lib.hid hb2;have HBx2:=Lib.hid (HBx.out.below hb2 HBx.out.lt);have HBR2:=Lib.hid (HBR.out.below hb2 HBR.out.lt);have HBE2:=Lib.hid (HBE.out.below hb2 HBE.out.lt);have HP2:=Lib.hid (HP.out.below hb12);have Hck:=Lib.hid hck;have r0:w2.cell? ⟨gR,0,none⟩=some (.slice none 0 0):=HBR2.out.cell 0;have r1:w2.cell? ⟨gR,1,none⟩=some (.slice none 0 0):=HBR2.out.cell 1;have r2:w2.cell? ⟨gR,2,none⟩=some (.slice none 0 0):=HBR2.out.cell 2;have r3:w2.cell? ⟨gR,3,none⟩=some (.slice none 0 0):=HBR2.out.cell 3;have r4:w2.cell? ⟨gR,4,none⟩=some (.int .i64 0):=HBR2.out.cell 4;have r5:w2.cell? ⟨gR,5,none⟩=some (.int .i64 0):=HBR2.out.cell 5;have e0:w2.cell? ⟨gE,0,none⟩=some (.int .i64 0):=HBE2.out.cell 0;have e1:w2.cell? ⟨gE,1,none⟩=some (.int .i64 0):=HBE2.out.cell 1;have e2:w2.cell? ⟨gE,2,none⟩=some (.int .i64 0):=HBE2.out.cell 2;have rf:=HBR2.out.frozen;have ef:=HBE2.out.frozen;have rl:=HBR2.out.lt;have el:=HBE2.out.lt;have hRE: ¬ gR=gE:=by have:=Hg.out;omega
 have hER: ¬ gE=gR:=by have:=Hg.out;omega
 clear hb2 hb12 hck x0 x1 x2 xl HBx HBR HBE HCk HP1;by_cases h0:ck=0
 ·subst h0;have hck0:checkL p.plain=0:=Hck.out.symm;have hmany:=good_many hck0;have hml:p.plain.fs.length=p.fs.length:=by simp[PrgM.plain]
  rw[hml] at hmany;obtain ⟨g,hgf⟩:∃g,p.fs[0]?=some g:=⟨_,List.getElem?_eq_getElem (by omega)⟩
  obtain ⟨b0,off,hA,hb,q0,q1,q2,q3,hF,hFl⟩:=HP2.out.fn hgf;have x0:w2.cell? ⟨gx,0,none⟩=some (.int .i64 p.mem):=HBx2.out.cell 0;have x1:w2.cell? ⟨gx,1,none⟩=some (.slice p.AD p.data.length p.cD):=HBx2.out.cell 1;have x2:w2.cell? ⟨gx,2,none⟩=some (.slice (some ⟨b0,off,none⟩) p.fs.length p.cF):=by rw[←hA];exact HBx2.out.cell 2
  have xl:=HBx2.out.lt;have hfl0:(0:Int)<(p.fs.length:Int):=by omega
  obtain ⟨ga,hga⟩:∃x,x=g.args:=⟨_,rfl⟩;obtain ⟨gr,hgr⟩:∃x,x=g.results:=⟨_,rfl⟩;rw[Nat.zero_mul,Nat.add_zero] at q0 q2;rw[←hga] at q0;rw[←hgr] at q2;have Hck0:=Lib.hid hck0;have Hmany:=Lib.hid hmany;have HA:=Lib.hid hA;have Hga:=Lib.hid (show p.plain.args 0=ga from by rw[hga];exact PrgM.args_plain hgf)
  have Hgr:=Lib.hid (show p.plain.results 0=gr from by rw[hgr];exact PrgM.results_plain hgf)
  clear hck0 hml hA hF q1 q3 hga hgr hgf;by_cases ha0:ga=0
  ·by_cases hr1:gr=1
   ·have HLead:=Lib.hid (show Lead p.plain from ⟨Hck0.out,by rw[Hga.out,ha0],by rw[Hgr.out,hr1]⟩)
    subst ha0 hr1;have HOp:=Lib.hid (operands13_any p w2 HP2.out);have hRl:=HBR2.out.lt;have hEl:=HBE2.out.lt;clear r0 r1 r2 r3 r4 r5 e0 e1 e2 rf ef rl el;go_upto_region 6 with (fail)
    clear q0 q2 hfl0 hb x2;have x2:w2.cell? ⟨gx,2,none⟩=some (.slice p.AF p.fs.length p.cF):=HBx2.out.cell 2;go_wp2_with fail
    refine HOp.out.mono ?_;rintro e w3 ⟨rfl,hb3⟩;have HBx3:=Lib.hid (HBx2.out.below hb3 HBx2.out.lt);have HBR3:=Lib.hid (HBR2.out.below hb3 HBR2.out.lt);have HBE3:=Lib.hid (HBE2.out.below hb3 HBE2.out.lt);have HB3:=Lib.hid (HB2.out.trans (hb3.mono HB2.out.size));have HP3:=Lib.hid (HP2.out.below hb3);clear hb3 HOp;cases hfp:firstP p.plain p.plain.fs 0 with
    |some x=>
     obtain ⟨er,ff,nn⟩:=x;have her:=firstP_ne hfp;dsimp only at her;have her2:(er != 0)=true:=by simpa using her
     have HBad:=Lib.hid (show BadAt p.plain (er,ff,nn) from .inr (.inr (.inl ⟨HLead.out,hfp⟩)))
     clear hfp;dsimp only[faultV];clear x0 x1 x2 xl hRl hEl HBx2 HBR2 HBE2 HP2;have hRl:=HBR3.out.lt;have hEl:=HBE3.out.lt;go_upto_region 8 with (fail)
     obtain ⟨gF,hgF⟩:∃g,g=w3.heap.size:=⟨_,rfl⟩;obtain ⟨w4,hw4⟩:∃w4,w4=w3.alloc (.cells #[.int .i64 er,.int .i64 ff,.int .i64 nn] 37):=⟨_,rfl⟩;rw[←hw4, ←hgF];have HBF:=Lib.hid (show Blk w4 gF 37 #[.int .i64 er,.int .i64 ff,.int .i64 nn] from by rw[hw4,hgF];exact Blk.new _ _ _)
     have HBRz:=Lib.hid (show Blk w4 gR 32 z6 from by rw[hw4];exact HBR3.out.alloc _)
     have HBEz:=Lib.hid (show Blk w4 gE 37 #[.int .i64 0,.int .i64 0,.int .i64 0] from by rw[hw4];exact HBE3.out.alloc _)
     have HBz:=Lib.hid (show Below w.heap.size w w4 from by rw[hw4];exact HB3.out.alloc HB3.out.size _)
     have hFR:gF≠gR:=by have:=HBR3.out.lt;omega
     have hFE:gF≠gE:=by have:=HBE3.out.lt;omega
     have r0:w4.cell? ⟨gR,0,none⟩=some (.slice none 0 0):=HBRz.out.cell 0;have r1:w4.cell? ⟨gR,1,none⟩=some (.slice none 0 0):=HBRz.out.cell 1;have r2:w4.cell? ⟨gR,2,none⟩=some (.slice none 0 0):=HBRz.out.cell 2;have r3:w4.cell? ⟨gR,3,none⟩=some (.slice none 0 0):=HBRz.out.cell 3;have r4:w4.cell? ⟨gR,4,none⟩=some (.int .i64 0):=HBRz.out.cell 4;have r5:w4.cell? ⟨gR,5,none⟩=some (.int .i64 0):=HBRz.out.cell 5;have e0:w4.cell? ⟨gE,0,none⟩=some (.int .i64 0):=HBEz.out.cell 0;have e1:w4.cell? ⟨gE,1,none⟩=some (.int .i64 0):=HBEz.out.cell 1;have e2:w4.cell? ⟨gE,2,none⟩=some (.int .i64 0):=HBEz.out.cell 2;have rf:=HBRz.out.frozen;have ef:=HBEz.out.frozen;have rl:=HBRz.out.lt;have el:=HBEz.out.lt;clear hgF hw4 hRl hEl;have f0:w4.cell? ⟨gF,0,none⟩=some (.int .i64 er):=HBF.out.cell 0;have f1:w4.cell? ⟨gF,1,none⟩=some (.int .i64 ff):=HBF.out.cell 1;have f2:w4.cell? ⟨gF,2,none⟩=some (.int .i64 nn):=HBF.out.cell 2;have fl:=HBF.out.lt;obtain ⟨SC,hSCd⟩:∃S:World→Prop,S=fun w'=>(w'.cell? ⟨gF,0,none⟩=some (.int .i64 er)∧w'.cell? ⟨gF,1,none⟩=some (.int .i64 ff)∧w'.cell? ⟨gF,2,none⟩=some (.int .i64 nn)∧gF<w'.heap.size):=⟨_,rfl⟩;have hSC:SC w4.drew:=by rw[hSCd];exact ⟨f0,f1,f2,fl⟩
     have HSC:=Lib.hid (show SC w4.drew from hSC)
     have HSd:=Lib.hid hSCd;clear hSC hSCd;refine region_heldT 4 SC (by kernel_rfl) (by decide) ?_
     refine hwA 0 (.agg #[.slice none 0 0,.slice none 0 0,.slice none 0 0,.slice none 0 0,.int .i64 0,.int .i64 0]) HSC.out ?_;simp only[Act.put,List.setIfInBounds_toArray];refine hwA 1 (.agg #[.int .i64 er,.int .i64 ff,.int .i64 nn]) HSC.out ?_;simp only[Act.put];obtain ⟨-,-,kO⟩:=store9 w4 gR gE _ _ HBRz.out HBEz.out rfl rfl hRE (.slice none 0 0) (.slice none 0 0) (.slice none 0 0) (.slice none 0 0) (.int .i64 0) (.int .i64 0) (.int .i64 er) (.int .i64 ff) (.int .i64 nn)
     have hSC1:SC ((((((w4.setCell ⟨gR,0,none⟩ (.slice none 0 0)).setCell ⟨gR,1,none⟩ (.slice none 0 0)).setCell ⟨gR,2,none⟩ (.slice none 0 0)).setCell ⟨gR,3,none⟩ (.slice none 0 0)).setCell ⟨gR,4,none⟩ (.int .i64 0)).setCell ⟨gR,5,none⟩ (.int .i64 0)).drew:=by
      rw[HSd.out];have kO1:Only (fun k=>k=gR) w4 ((((((w4.setCell ⟨gR,0,none⟩ (.slice none 0 0)).setCell ⟨gR,1,none⟩ (.slice none 0 0)).setCell ⟨gR,2,none⟩ (.slice none 0 0)).setCell ⟨gR,3,none⟩ (.slice none 0 0)).setCell ⟨gR,4,none⟩ (.int .i64 0)).setCell ⟨gR,5,none⟩ (.int .i64 0)).drew:=(((((((Only.refl (fun k=>k=gR) w4).setCell (p:=⟨gR,0,none⟩) (.inl rfl) _).setCell (p:=⟨gR,1,none⟩) (.inl rfl) _).setCell (p:=⟨gR,2,none⟩) (.inl rfl) _).setCell (p:=⟨gR,3,none⟩) (.inl rfl) _).setCell (p:=⟨gR,4,none⟩) (.inl rfl) _).setCell (p:=⟨gR,5,none⟩) (.inl rfl) _).drew;have hz:=kO1.size;have hn:gF≠gR:=hFR;exact ⟨(kO1.cell (p:=⟨gF,0,none⟩) fl hn).trans f0,(kO1.cell (p:=⟨gF,1,none⟩) fl hn).trans f1,(kO1.cell (p:=⟨gF,2,none⟩) fl hn).trans f2,by omega⟩
     have hSC2:SC (((((((((w4.setCell ⟨gR,0,none⟩ (.slice none 0 0)).setCell ⟨gR,1,none⟩ (.slice none 0 0)).setCell ⟨gR,2,none⟩ (.slice none 0 0)).setCell ⟨gR,3,none⟩ (.slice none 0 0)).setCell ⟨gR,4,none⟩ (.int .i64 0)).setCell ⟨gR,5,none⟩ (.int .i64 0)).setCell ⟨gE,0,none⟩ (.int .i64 er)).setCell ⟨gE,1,none⟩ (.int .i64 ff)).setCell ⟨gE,2,none⟩ (.int .i64 nn)).drew:=by
      rw[HSd.out];replace kO:=kO.drew
      have hz:=kO.size;have hn: ¬ (gF=gR∨gF=gE):=fun e=>e.elim hFR hFE;exact ⟨(kO.cell (p:=⟨gF,0,none⟩) fl hn).trans f0,(kO.cell (p:=⟨gF,1,none⟩) fl hn).trans f1,(kO.cell (p:=⟨gF,2,none⟩) fl hn).trans f2,by omega⟩
     clear kO;refine hwO 2 fun K hK=>?_;go_simp;refine hK.out _ _ hSC1 (fun hHeld=>?_);clear hK K hHeld;refine hwO 3 fun K hK=>?_;go_simp;refine hK.out _ _ hSC2 (fun hHeld=>?_);clear hK K hHeld;refine fun _=>⟨by kernel_rfl,?_⟩
     simp only[List.drop_succ_cons,List.drop_zero];clear HSC HSd hSC1 hSC2;clear SC;go_wp2_with fail
     obtain ⟨wf,hwf⟩:∃wf,wf=(((((((((w4.setCell ⟨gR,0,none⟩ (.slice none 0 0)).setCell ⟨gR,1,none⟩ (.slice none 0 0)).setCell ⟨gR,2,none⟩ (.slice none 0 0)).setCell ⟨gR,3,none⟩ (.slice none 0 0)).setCell ⟨gR,4,none⟩ (.int .i64 0)).setCell ⟨gR,5,none⟩ (.int .i64 0)).setCell ⟨gE,0,none⟩ (.int .i64 er)).setCell ⟨gE,1,none⟩ (.int .i64 ff)).setCell ⟨gE,2,none⟩ (.int .i64 nn)).drew:=⟨_,rfl⟩;rw[←hwf];obtain ⟨k1,k2,k3⟩:=store9 w4 gR gE _ _ HBRz.out HBEz.out rfl rfl hRE (.slice none 0 0) (.slice none 0 0) (.slice none 0 0) (.slice none 0 0) (.int .i64 0) (.int .i64 0) (.int .i64 er) (.int .i64 ff) (.int .i64 nn);replace k1:Blk wf gR 32 #[.slice none 0 0,.slice none 0 0,.slice none 0 0,.slice none 0 0,.int .i64 0,.int .i64 0]:=by rw[hwf];exact k1.drew
     replace k2:Blk wf gE 37 #[.int .i64 er,.int .i64 ff,.int .i64 nn]:=by rw[hwf];exact k2.drew
     replace k3:Only (fun k=>k=gR∨k=gE) w4 wf:=by rw[hwf];exact k3.drew
     clear hwf;have hbelow:Below w.heap.size w _:=HBz.out.trans (k3.below (B:=w.heap.size) HBz.out.size fun k hk e=>by have:=Hg.out;omega)
     have q0:=k1.cell 0;have q1:=k1.cell 1;have q2:=k1.cell 2;have q3:=k1.cell 3;have q4:=k1.cell 4;have q5:=k1.cell 5;have p0:=k2.cell 0;have p1:=k2.cell 1;have p2:=k2.cell 2;dsimp at q0 q1 q2 q3 q4 q5 p0 p1 p2
     refine bodyPost_ret (v:=.tuple #[.agg #[.slice none 0 0,.slice none 0 0,.slice none 0 0,.slice none 0 0,.int .i64 0,.int .i64 0],.agg #[.int .i64 er,.int .i64 ff,.int .i64 nn]]) ?_ rfl ⟨hbelow,.inl ⟨_,HBad.out,rfl⟩⟩;simp[results,Try.results13,go_sem,q0,q1,q2,q3,q4,q5,p0,p1,p2]
    |none=>
     have Hfp:=Lib.hid hfp;clear hfp;dsimp only[faultV];have Hgood:=Lib.hid (show Good p.plain from ⟨Hck0.out,Hfp.out⟩)
     obtain ⟨n,hn⟩:∃n,n=p.fs.length:=⟨_,rfl⟩;clear x0 x1 x2 xl hRl hEl;have x0:w3.cell? ⟨gx,0,none⟩=some (.int .i64 p.mem):=HBx3.out.cell 0;have x1:w3.cell? ⟨gx,1,none⟩=some (.slice p.AD p.data.length p.cD):=HBx3.out.cell 1;have x2:w3.cell? ⟨gx,2,none⟩=some (.slice p.AF p.fs.length p.cF):=HBx3.out.cell 2;have xl:=HBx3.out.lt;rw[←hn] at hmany x2;have Hn:=Lib.hid hn;clear hn hFl;obtain ⟨gX,hgX⟩:∃g,g=w3.heap.size+1:=⟨_,rfl⟩;obtain ⟨w5,hw5⟩:∃w5,w5=(w3.alloc (.cells #[.int .i64 0,.int .i64 0,.int .i64 0] 37)).alloc (.cells z6 32):=⟨_,rfl⟩;have hb35:Below w3.heap.size w3 w5:=by rw[hw5];exact ((Below.refl _ _).alloc (Nat.le_refl _) _).alloc (by simp) _
     have hX5:Blk w5 gX 32 z6:=by rw[hw5,hgX];exact Blk.new2 _ _ _ _
     have HX5:=Lib.hid hX5;have HBx5:=Lib.hid (HBx3.out.below hb35 HBx3.out.lt);have HBR5:=Lib.hid (HBR3.out.below hb35 HBR3.out.lt);have HBE5:=Lib.hid (HBE3.out.below hb35 HBE3.out.lt);have HB5:=Lib.hid (HB3.out.trans (hb35.mono HB3.out.size));have HP5:=Lib.hid (HP3.out.below hb35);have HgX:=Lib.hid (show w3.heap.size<gX∧gx<w3.heap.size∧gR<w3.heap.size∧gE<w3.heap.size∧w.heap.size≤w3.heap.size∧gX<w5.heap.size from ⟨by omega,HBx3.out.lt,HBR3.out.lt,HBE3.out.lt,HB3.out.size,hX5.lt⟩)
     have Hw5:=Lib.hid hw5;have HgXe:=Lib.hid hgX;have HzM:=Lib.hid (RunM.start w5 w.heap.size);clear hb35 hX5 hw5 hgX HBx2 HBR2 HBE2 HP2;go_upto_region 10 with (fail)
     rw[←Hw5.out, ←HgXe.out];have x05:w5.cell? ⟨gx,0,none⟩=some (.int .i64 p.mem):=HBx5.out.cell 0;have x25:w5.cell? ⟨gx,2,none⟩=some (.slice p.AF n p.cF):=by rw[Hn.out];exact HBx5.out.cell 2
     have xl5:=HBx5.out.lt;clear x0 x1 x2 xl Hw5 HgXe;go_wp2_with fail
     go_loopw [45] (fun i wr=>∃(f:Nat) (hs lps:List (List Int)) (tops:List Int) (HR LR:List (LG×List Value)) (AH:Option Addr) (cH:Nat) (AT:Option Addr) (cT:Nat) (AL:Option Addr) (cL:Nat),f≤n∧i= .int .i64 (f:Int)∧hs.length=f∧lps.length=f∧tops.length=f∧
      Hid (∀g:Nat,g<f→HFin p.plain g (hs.getD g [])∧TopF p.plain g (hs.getD g []) (tops.getD g 0)∧lps.getD g []=loopsL (nxF p.plain g) (p.plain.len g))∧RunM wr w.heap.size hs lps tops HR LR AH cH AT cT AL cL∧
      Blk wr gX 32 #[.slice AH f cH,.slice AT f cT,.slice AL f cL,.slice none 0 0,.int .i64 0,.int .i64 0]∧Only (fun k=>k=gX) w5 wr∧Hid ((∀k,AH.map (·.block)=some k→w5.heap.size≤k)∧(∀k,AT.map (·.block)=some k→w5.heap.size≤k)∧(∀k,AL.map (·.block)=some k→w5.heap.size≤k))) (fun i _=>n-(intOf i).toNat)
     case atStart=>exact ⟨0,[],[],[],[],[],none,0,none,0,none,0,Nat.zero_le _,rfl,rfl,rfl,rfl,Lib.hid (fun g h=>by omega),HzM.out,HX5.out,Only.refl _ _,Lib.hid ⟨fun k e=>(by cases e),fun k e=>(by cases e),fun k e=>(by cases e)⟩⟩
     rename World=>wr;clear HzM x05 x25 xl5;obtain ⟨f,hs,lps,tops,HR,LR,AH,cH,AT,cT,AL,cL,hfn,rfl,hhl,hll,htl,HInv,hM,hX,hB,HNew⟩:=hrel;have HM:=Lib.hid hM;have HX:=Lib.hid hX;have HB:=Lib.hid hB;have hgXx: ¬ gx=gX:=by have:=HgX.out;omega
     have hBxr:=HBx5.out.only hB hgXx;have HBxr:=Lib.hid hBxr;have hPr:PrgAt wr p:=HP.out.below (HB5.out.trans (hB.below (B:=w.heap.size) HB5.out.size fun k hk e=>by have:=HgX.out;omega))
     have HPr:=Lib.hid hPr;have Hhl:=Lib.hid hhl;have Hll:=Lib.hid hll;have Htl:=Lib.hid htl;have HBr:=Lib.hid (show Below w.heap.size w wr from HB5.out.trans (hB.below (B:=w.heap.size) HB5.out.size fun k hk e=>by have:=HgX.out;omega))
     by_cases hlt:f<n
     ·have g1:(f:Int)<(n:Int):=by omega
      have x0:wr.cell? ⟨gx,0,none⟩=some (.int .i64 p.mem):=hBxr.cell 0;have x1:wr.cell? ⟨gx,1,none⟩=some (.slice p.AD p.data.length p.cD):=hBxr.cell 1;have x2:wr.cell? ⟨gx,2,none⟩=some (.slice p.AF p.fs.length p.cF):=hBxr.cell 2;have xl:=hBxr.lt;have HH:=Lib.hid (heights_any p f wr hPr Hgood.out (by rw[←Hn.out];exact hlt))
      clear hM hX hB hBxr hPr hhl hll htl;go_wp2_with fail
      refine HH.out.mono ?_;clear HH;rintro e w6 ⟨hb6,⟨h,top,A,c,hR,hhL,hT,rfl,hO⟩|⟨er,nn,hR,her,rfl⟩⟩
      ·have hfP:f<p.plain.fs.length:=by have:=Hn.out;simp only[PrgM.plain,List.length_map];omega
       have hlen0:0<p.plain.len f:=by
        have h:=(good_fn Hck0.out (List.getElem_mem hfP)).c0;rw[Prg.len_of (List.getElem?_eq_getElem hfP)];omega
       have hFin:HFin p.plain f h:=runs_fin Hck0.out hlen0 hR;have hlen1:p.plain.len f≤4096:=good_len Hgood.out f;obtain ⟨N,hN⟩:∃N,N=h.length:=⟨_,rfl⟩;have HFin:=Lib.hid hFin;have HTop:=Lib.hid hT;have HhL:=Lib.hid (show N=p.plain.len f from by rw[hN];exact hhL)
       have HNh:=Lib.hid hN;rw[←hN] at hO ⊢;have hN1:0<N∧N≤4096:=by omega
       have HBx6:=Lib.hid (HBxr.out.below hb6 HBxr.out.lt);have hM6:=HM.out.below hb6;have hX6:=HX.out.below hb6 HX.out.lt;obtain ⟨w7,hw7⟩:∃w7,w7=w6.alloc (.cells #[.int .i64 0,.int .i64 0,.int .i64 0] 37):=⟨_,rfl⟩;have hb67:Below w6.heap.size w6 w7:=by rw[hw7];exact (Below.refl _ _).alloc (Nat.le_refl _) _
       have hM7:=hM6.below hb67;have hX7:=hX6.below hb67 hX6.lt;have hO7:OwnI w7 wr.heap.size A N c h:=Own.below hO hb67 (Nat.le_refl _);have hltB:=HM.out.lt;have HltB:=Lib.hid hltB;have HM7:=Lib.hid hM7;have HX7:=Lib.hid hX7;have HO7:=Lib.hid hO7;have HB67:=Lib.hid (show Below wr.heap.size wr w7 from hb6.trans (hb67.mono hb6.size))
       have Hw7:=Lib.hid hw7;have a0:w7.cell? ⟨gX,0,none⟩=some (.slice AH f cH):=hX7.cell 0;have xl7:=hX7.lt;have hzz:w.heap.size≤wr.heap.size:=HBr.out.size;have Hzz:=Lib.hid hzz;clear hR hhL hT hN hO hb6 hM6 hX6 hb67 hM7 hX7 hO7 hltB hw7 hFin hlen0 hlen1 hzz;dsimp only[faultV];clear x0 x1 x2 xl;go_upto_region 16 with (fail)
       rw[←Hw7.out];go_wp2_with (refine wpList_at 64 rfl ?_;refine wp_stop ?_)
       try refine ⟨?_⟩
       obtain ⟨w8,hw8⟩:∃w8,w8=w7.alloc (.cells #[.slice A N c] 29):=⟨_,rfl⟩;rw[←hw8];have hb78:Below w7.heap.size w7 w8:=by rw[hw8];exact (Below.refl _ _).alloc (Nat.le_refl _) _
       have hU8:RV w8 (some ⟨w7.heap.size,0,none⟩) [.slice A N c]:=by rw[hw8];exact RV.of_blk (Blk.new w7 _ #[.slice A N c])
       have hM8:=HM7.out.below hb78;have hHl:HR.length=f:=by rw[hM8.lens.1];exact Hhl.out
       have hoh8:=hM8.oh;rw[hHl] at hoh8;have hO8:OwnI w8 wr.heap.size A N c h:=Own.below HO7.out hb78 (Nat.le_refl _);have hz8:w.heap.size≤w8.heap.size:=by have:=hb78.size;have:=HB67.out.size;have:=Hzz.out;omega
       refine wpList_app rfl (.tmp 61) (.tmp 63) eIRow rfl rfl hoh8 (m:=1) (c':=1) (us:=[.slice A N c]) rfl hU8 rfl (by intro v hv;simp only[List.mem_cons,List.not_mem_nil,or_false] at hv;subst hv;rfl) (by unfold maxLen;omega) (by omega) hz8 (by intro h;cases h) ?_
       intro A9 c9 w9 ho9 hg9 hA9
       have hM9:RunM w9 w.heap.size (hs++[h]) lps tops (HR++[(⟨A,h.length,c⟩,h.map iv)]) LR A9 c9 AT cT AL cL:=
        hM8.pushH (B2:=wr.heap.size) (by rw[←HNh.out];exact hO8) Hzz.out HltB.out.1 HltB.out.2.1 HltB.out.2.2 (by rw[hHl, ←HNh.out];exact ho9) hg9 hA9
       have hX9:Blk w9 gX 32 #[.slice AH f cH,.slice AT f cT,.slice AL f cL,.slice none 0 0,.int .i64 0,.int .i64 0]:=
        (HX7.out.below hb78 HX7.out.lt).grown hg9 fun e=>own_blk_ne hoh8 (HX7.out.below hb78 HX7.out.lt) (by decide) gX e.symm rfl
       have hO79:Only (fun k=>AH.map (·.block)=some k) w7 w9:=(Only.of_fresh hb78).trans (Only.of_grown hg9 fun k e=>e);have hx9:OwnI w9 wr.heap.size A N c h:=Own.only HO7.out hO79 (fun b o e e2=>ownG_ne HM7.out.oh HO7.out (by decide) b e2 (by rw[e];rfl))
       obtain ⟨w10,hw10⟩:∃w10,w10=w9.setCell ⟨gX,0,none⟩ (.slice A9 (f+1) c9):=⟨_,rfl⟩;have hO10:Only (fun k=>k=gX) w9 w10:=by rw[hw10];exact (Only.refl (fun k=>k=gX) w9).setCell (p:=⟨gX,0,none⟩) (.inl rfl) _
       have hM10:=hM9.one hX9 (by decide) (by decide) hO10
       have hX10:Blk w10 gX 32 #[.slice A9 (f+1) c9,.slice AT f cT,.slice AL f cL,.slice none 0 0,.int .i64 0,.int .i64 0]:=by rw[hw10];exact Blk.setL (cs:=[.slice AH f cH,.slice AT f cT,.slice AL f cL,.slice none 0 0,.int .i64 0,.int .i64 0]) hX9 0 _
       have hx10:OwnI w10 wr.heap.size A N c h:=Own.only hx9 hO10 (fun b o e e2=>own_blk_ne hx9 hX9 (by decide) b (by rw[e];rfl) e2)
       have HO710:=Lib.hid (show Only (fun k=>AH.map (·.block)=some k∨k=gX) w7 w10 from (hO79.mono fun k _ e=> .inl e).trans (hO10.mono fun k _ e=> .inr e))
       have HM10:=Lib.hid hM10
       have HNew9:=Lib.hid (show ∀k,A9.map (·.block)=some k→w5.heap.size≤k from fun k e=>by
        rcases hA9 with h|h
        ·rw[h] at e;exact HNew.out.1 k e
        rw[h] at e;have:k=w8.heap.size:=(Option.some.inj e).symm;have:=hb78.size;have:=HB67.out.size;have:=HB.out.size;omega)
       have HX10:=Lib.hid hX10;have Hx10:=Lib.hid hx10;have Hw10:=Lib.hid hw10;have b0:w9.cell? ⟨gX,0,none⟩=some (.slice AH f cH):=hX9.cell 0;have bf:=hX9.frozen 0;have bl:=hX9.lt;clear hw8 hb78 hU8 hM8 hHl hoh8 hO8 hz8 ho9 hg9 hA9 hM9 hX9 hO79 hx9 hO10 hM10 hX10 hx10 hw10 a0 xl7;clear w8;go_upto_region 17 with (fail)
       rw[←Hw10.out];clear Hw10 b0 bf bl;clear w9;have a1:w10.cell? ⟨gX,1,none⟩=some (.slice AT f cT):=HX10.out.cell 1;have xl10:=HX10.out.lt;go_wp2_with (refine wpList_at 70 rfl ?_;refine wp_stop ?_)
       try refine ⟨?_⟩
       obtain ⟨w11,hw11⟩:∃w11,w11=w10.alloc (.cells #[.int .i64 top] 3):=⟨_,rfl⟩;rw[←hw11];have hb11:Below w10.heap.size w10 w11:=by rw[hw11];exact (Below.refl _ _).alloc (Nat.le_refl _) _
       have hU11:RV w11 (some ⟨w10.heap.size,0,none⟩) [.int .i64 top]:=by rw[hw11];exact RV.of_blk (Blk.new w10 _ #[.int .i64 top])
       have hM11:=HM10.out.below hb11;have hot11:=hM11.ot;rw[Htl.out] at hot11;have hz11:w.heap.size≤w11.heap.size:=by have:=hb11.size;have:=HO710.out.size;have:=HB67.out.size;have:=Hzz.out;omega
       refine wpList_app rfl (.tmp 67) (.tmp 69) eInt rfl rfl hot11 (m:=1) (c':=1) (us:=[.int .i64 top]) rfl hU11 rfl (by intro v hv;simp only[List.mem_cons,List.not_mem_nil,or_false] at hv;subst hv;rfl) (by unfold maxLen;omega) (by omega) hz11 (by intro h;cases h) ?_
       intro A12 c12 w12 ho12 hg12 hA12;have hM12:RunM w12 w.heap.size (hs++[h]) lps (tops++[top]) (HR++[(⟨A,h.length,c⟩,h.map iv)]) LR A9 c9 A12 c12 AL cL:=hM11.pushT (by rw[Htl.out];exact ho12) hg12 hA12
       have hX11:=HX10.out.below hb11 HX10.out.lt;have hX12:Blk w12 gX 32 #[.slice A9 (f+1) c9,.slice AT f cT,.slice AL f cL,.slice none 0 0,.int .i64 0,.int .i64 0]:=hX11.grown hg12 fun e=>own_blk_ne hot11 hX11 (by decide) gX e.symm rfl
       have hx12:OwnI w12 wr.heap.size A N c h:=by
        have hx11:OwnI w11 wr.heap.size A N c h:=Own.below Hx10.out hb11 (Nat.le_refl _)
        exact Own.only hx11 (Only.of_grown hg12 fun k e=>e) fun b o e e2=>by
         have h1:=(Own.row hx11 b (by rw[e];rfl)).1
         have h2:=HltB.out.2.2 b e2;omega
       obtain ⟨w13,hw13⟩:∃w13,w13=w12.setCell ⟨gX,1,none⟩ (.slice A12 (f+1) c12):=⟨_,rfl⟩;have hO13:Only (fun k=>k=gX) w12 w13:=by rw[hw13];exact (Only.refl (fun k=>k=gX) w12).setCell (p:=⟨gX,1,none⟩) (.inl rfl) _
       have hM13:=hM12.one hX12 (by decide) (by decide) hO13
       have hX13:Blk w13 gX 32 #[.slice A9 (f+1) c9,.slice A12 (f+1) c12,.slice AL f cL,.slice none 0 0,.int .i64 0,.int .i64 0]:=by rw[hw13];exact Blk.setL (cs:=[.slice A9 (f+1) c9,.slice AT f cT,.slice AL f cL,.slice none 0 0,.int .i64 0,.int .i64 0]) hX12 1 _
       have hx13:OwnI w13 wr.heap.size A N c h:=Own.only hx12 hO13 (fun b o e e2=>own_blk_ne hx12 hX12 (by decide) b (by rw[e];rfl) e2)
       have HO713:=Lib.hid (show Only (fun k=>AH.map (·.block)=some k∨AT.map (·.block)=some k∨k=gX) w7 w13 from (HO710.out.mono fun k _ e=>e.elim .inl fun e=> .inr (.inr e)).trans (((Only.of_fresh hb11).trans (Only.of_grown hg12 fun k e=> .inr (.inl e))).trans (hO13.mono fun k _ e=> .inr (.inr e))))
       have HM13:=Lib.hid hM13
       have HNew12:=Lib.hid (show ∀k,A12.map (·.block)=some k→w5.heap.size≤k from fun k e=>by
        rcases hA12 with h|h
        ·rw[h] at e;exact HNew.out.2.1 k e
        rw[h] at e;have:k=w11.heap.size:=(Option.some.inj e).symm;have:=hb11.size;have:=HO710.out.size;have:=HB67.out.size;have:=HB.out.size;omega)
       have HX13:=Lib.hid hX13;have Hx13:=Lib.hid hx13;have Hw13:=Lib.hid hw13;have b0:w12.cell? ⟨gX,1,none⟩=some (.slice AT f cT):=hX12.cell 1;have bf:=hX12.frozen 1;have bl:=hX12.lt;clear hw11 hb11 hU11 hM11 hot11 hz11 ho12 hg12 hA12 hM12 hX11 hX12 hx12 hO13 hM13 hX13 hx13 hw13 a1 xl10;clear w11;go_upto_region 18 with (fail)
       rw[←Hw13.out];clear Hw13 b0 bf bl;clear w12;have hBx7:=HBxr.out.below HB67.out HBxr.out.lt
       have hbw:Below w.heap.size w w13:=HBr.out.trans ((HB67.out.mono HBr.out.size).trans (HO713.out.below (B:=w.heap.size) (Nat.le_trans HBr.out.size HB67.out.size) fun k hk e=>by
        rcases e with e|e|e
        ·have:=(Own.row HM7.out.oh k e).1;omega
        ·have:=(Own.row HM7.out.ot k e).1;omega
        have:=HgX.out;omega))
       have hBx13:Blk w13 gx 26 #[.int .i64 p.mem,.slice p.AD p.data.length p.cD,.slice p.AF p.fs.length p.cF]:=hBx7.only HO713.out fun e=>by
        rcases e with e|e|e
        ·exact own_blk_ne HM7.out.oh hBx7 (by decide) gx e rfl
        ·exact own_blk_ne HM7.out.ot hBx7 (by decide) gx e rfl
        exact hgXx e
       have x0:w13.cell? ⟨gx,0,none⟩=some (.int .i64 p.mem):=hBx13.cell 0;have x1:w13.cell? ⟨gx,1,none⟩=some (.slice p.AD p.data.length p.cD):=hBx13.cell 1;have x2:w13.cell? ⟨gx,2,none⟩=some (.slice p.AF p.fs.length p.cF):=hBx13.cell 2;have xl:=hBx13.lt;have a2:w13.cell? ⟨gX,2,none⟩=some (.slice AL f cL):=HX13.out.cell 2;have al:=HX13.out.lt
       have HLp:=Lib.hid (loops_any p f N h A c w13.drew ((HP.out.below hbw).below (Below.refl _ w13).drew) (RV.of_own (Own.below Hx13.out ((Below.refl _ w13).drew) (Nat.le_refl _))) HNh.out.symm hN1.1 hN1.2 (fun x hx=>by
        have e:h[0]?=some 0:=HFin.out.zero;rw[e] at hx;injection hx with hx
        omega) (fun v _ u hu=>by
        unfold nxI at hu;split at hu
        ·cases hu
        unfold nextL at hu;split at hu
        ·cases hu
        have h1:=(List.mem_filter.1 hu).2;simp only[Bool.and_eq_true,decide_eq_true_eq] at h1;rw[←HhL.out] at h1;exact h1))
       rw[loops_eq HFin.out Hck0.out N] at HLp;obtain ⟨L,hL⟩:∃L,L=loopsL (nxF p.plain f) N:=⟨_,rfl⟩;rw[←hL] at HLp;have HL:=Lib.hid hL;clear hL hBx7 hbw hBx13;obtain ⟨SC,hSCd⟩:∃S:World→Prop,S=fun w'=>(w'.cell? ⟨gx,0,none⟩=some (.int .i64 p.mem)∧w'.cell? ⟨gx,1,none⟩=some (.slice p.AD p.data.length p.cD)∧w'.cell? ⟨gx,2,none⟩=some (.slice p.AF p.fs.length p.cF)∧gx<w'.heap.size)∧w'.cell? ⟨gX,2,none⟩=some (.slice AL f cL)∧gX<w'.heap.size:=⟨_,rfl⟩;have hSC:SC w13.drew:=by rw[hSCd];exact ⟨⟨x0,x1,x2,xl⟩,a2,al⟩
       have HSC:=Lib.hid (show SC w13.drew from hSC)
       have HSd:=Lib.hid hSCd;clear hSC hSCd;refine region_heldT 7 SC (by kernel_rfl) (by decide) ?_
       refine hwK 0 (.pointer (some ⟨gX,2,none⟩)) HSC.out ?_;simp only[Act.put,List.setIfInBounds_toArray];refine hwK 1 (.slice AL f cL) HSC.out ?_;simp only[Act.put];refine hwK 2 (.agg #[.int .i64 p.mem,.slice p.AD p.data.length p.cD,.slice p.AF p.fs.length p.cF]) HSC.out ?_;simp only[Act.put];refine hwK 3 (.int .i64 (f:Int)) HSC.out ?_;simp only[Act.put];refine hwK 4 (.slice A N c) HSC.out ?_;simp only[Act.put];refine hwO 5 fun K hK=>?_;go_simp;refine HLp.out.mono ?_;rintro e w14 ⟨A14,c14,rfl,hO14,hb14⟩;have hb14':Below w13.heap.size w13 w14:=(Below.refl _ w13).drew.trans hb14
       have hSC14:SC w14:=by
        rw[HSd.out];obtain ⟨hc,-⟩:=bcell hb14';have hz:=hb14'.size;exact ⟨⟨(hc _ _ xl).trans x0,(hc _ _ xl).trans x1,(hc _ _ xl).trans x2,by omega⟩,(hc _ _ al).trans a2,by omega⟩
       refine hK.out _ _ hSC14 (fun hHeld=>?_);clear hK K hHeld;have HO14:=Lib.hid hO14;have HB14:=Lib.hid hb14';clear hO14 hb14
       have hSC15:SC (w14.alloc (.cells #[.slice A14 L.length c14] 29)):=by
        rw[HSd.out];have hb:Below w13.heap.size w13 (w14.alloc (.cells #[.slice A14 L.length c14] 29)):=hb14'.alloc hb14'.size _;obtain ⟨hc,-⟩:=bcell hb;have hz:=hb.size;exact ⟨⟨(hc _ _ xl).trans x0,(hc _ _ xl).trans x1,(hc _ _ xl).trans x2,by omega⟩,(hc _ _ al).trans a2,by omega⟩
       refine hwO 6 fun K hK=>?_;go_simp;refine hK.out _ _ hSC15 (fun hHeld=>?_);clear hK K hHeld;refine fun _=>⟨by kernel_rfl,?_⟩
       simp only[List.drop_succ_cons,List.drop_zero];clear HSC HSd hSC14 hSC15 hb14';clear SC;obtain ⟨w15,hw15⟩:∃w15,w15=w14.alloc (.cells #[.slice A14 L.length c14] 29):=⟨_,rfl⟩;rw[←hw15];have hb15:Below w14.heap.size w14 w15:=by rw[hw15];exact (Below.refl _ _).alloc (Nat.le_refl _) _
       have hU15:RV w15 (some ⟨w14.heap.size,0,none⟩) [.slice A14 L.length c14]:=by rw[hw15];exact RV.of_blk (Blk.new w14 _ #[.slice A14 L.length c14])
       have hM15:=(HM13.out.below HB14.out).below hb15;have hX15:=(HX13.out.below HB14.out HX13.out.lt).below hb15 (HX13.out.below HB14.out HX13.out.lt).lt;have hLl:LR.length=f:=by rw[hM15.lens.2];exact Hll.out
       have hol15:=hM15.ol;rw[hLl] at hol15;have hO15:OwnI w15 w13.heap.size A14 L.length c14 L:=Own.below HO14.out hb15 (Nat.le_refl _);have hz13:w.heap.size≤w13.heap.size:=by have:=HO713.out.size;have:=HB67.out.size;have:=Hzz.out;omega
       have hz15:w.heap.size≤w15.heap.size:=by have:=hb15.size;have:=HB14.out.size;omega
       refine wpList_app rfl (.tmp 73) (.tmp 78) eIRow rfl rfl hol15 (m:=1) (c':=1) (us:=[.slice A14 L.length c14]) rfl hU15 rfl (by intro v hv;simp only[List.mem_cons,List.not_mem_nil,or_false] at hv;subst hv;rfl) (by unfold maxLen;omega) (by omega) hz15 (by intro h;cases h) ?_
       intro A16 c16 w16 ho16 hg16 hA16;have hlt13:=HM13.out.lt
       have hM16:RunM w16 w.heap.size (hs++[h]) (lps++[L]) (tops++[top]) (HR++[(⟨A,h.length,c⟩,h.map iv)]) (LR++[(⟨A14,L.length,c14⟩,L.map iv)]) A9 c9 A12 c12 A16 c16:=
        hM15.pushL (B2:=w13.heap.size) hO15 hz13 hlt13.1 hlt13.2.1 hlt13.2.2 (by rw[hLl];exact ho16) hg16 hA16
       have hX16:Blk w16 gX 32 #[.slice A9 (f+1) c9,.slice A12 (f+1) c12,.slice AL f cL,.slice none 0 0,.int .i64 0,.int .i64 0]:=hX15.grown hg16 fun e=>own_blk_ne hol15 hX15 (by decide) gX e.symm rfl
       have a16:w16.cell? ⟨gX,2,none⟩=some (.slice AL f cL):=hX16.cell 2;have af16:=hX16.frozen 2;have al16:=hX16.lt;obtain ⟨w17,hw17⟩:∃w17,w17=w16.setCell ⟨gX,2,none⟩ (.slice A16 (f+1) c16):=⟨_,rfl⟩;have hO17:Only (fun k=>k=gX) w16 w17:=by rw[hw17];exact (Only.refl (fun k=>k=gX) w16).setCell (p:=⟨gX,2,none⟩) (.inl rfl) _
       have hM17:=hM16.one hX16 (by decide) (by decide) hO17
       have hX17:Blk w17 gX 32 #[.slice A9 (f+1) c9,.slice A12 (f+1) c12,.slice A16 (f+1) c16,.slice none 0 0,.int .i64 0,.int .i64 0]:=by rw[hw17];exact Blk.setL (cs:=[.slice A9 (f+1) c9,.slice A12 (f+1) c12,.slice AL f cL,.slice none 0 0,.int .i64 0,.int .i64 0]) hX16 2 _
       have hO5:Only (fun k=>k=gX) w5 w17:=by
        have e1:Only (fun k=>AH.map (·.block)=some k∨AT.map (·.block)=some k∨AL.map (·.block)=some k∨k=gX) wr w17:=by
         refine (Only.of_fresh HB67.out).trans ((HO713.out.mono fun k _ e=>by rcases e with e|e|e<;>simp[e]).trans (((Only.of_fresh HB14.out).trans (Only.of_fresh hb15)).trans ((Only.of_grown hg16 fun k e=> .inr (.inr (.inl e))).trans (hO17.mono fun k _ e=> .inr (.inr (.inr e))))))
        refine HB.out.more e1 fun k hk e=>?_;rcases e with e|e|e|e
        ·exact absurd (HNew.out.1 k e) (by omega)
        ·exact absurd (HNew.out.2.1 k e) (by omega)
        ·exact absurd (HNew.out.2.2 k e) (by omega)
        exact e
       have HM17:=Lib.hid hM17;have HX17:=Lib.hid hX17;have HO5:=Lib.hid hO5;have Hw17:=Lib.hid hw17
       have HNew17:=Lib.hid (show (∀k,A9.map (·.block)=some k→w5.heap.size≤k)∧(∀k,A12.map (·.block)=some k→w5.heap.size≤k)∧(∀k,A16.map (·.block)=some k→w5.heap.size≤k) from ⟨HNew9.out,HNew12.out,fun k e=>by
        rcases hA16 with h|h
        ·rw[h] at e;exact HNew.out.2.2 k e
        rw[h] at e;have:k=w15.heap.size:=(Option.some.inj e).symm;have:=hb15.size;have:=HB14.out.size;have:=HO713.out.size;have:=HB67.out.size;have:=HB.out.size;omega⟩)
       clear hw15 hb15 hU15 hM15 hX15 hLl hol15 hO15 hz13 hz15 ho16 hg16 hA16 hlt13 hM16 hX16 hO17 hM17 hX17 hO5 hw17 x0 x1 x2 xl a2 al;clear w15;go_wp2_with fail
       rw[←Hw17.out];refine ⟨⟨f+1,hs++[h],lps++[L],tops++[top],_,_,A9,c9,A12,c12,A16,c16,by omega,rfl,by rw[List.length_append,Hhl.out];rfl,by rw[List.length_append,Hll.out];rfl,by rw[List.length_append,Htl.out];rfl,Lib.hid (fun g hg=>?_),HM17.out,HX17.out,HO5.out,HNew17⟩,?_⟩
       ·by_cases e:g=f
        ·subst e;have e1:(hs++[h]).getD g []=h:=by rw[List.getD_eq_getElem?_getD,List.getElem?_append_right (by rw[Hhl.out];exact Nat.le_refl _),Hhl.out,Nat.sub_self];rfl
         have e2:(tops++[top]).getD g 0=top:=by rw[List.getD_eq_getElem?_getD,List.getElem?_append_right (by rw[Htl.out];exact Nat.le_refl _),Htl.out,Nat.sub_self];rfl
         have e3:(lps++[L]).getD g []=L:=by rw[List.getD_eq_getElem?_getD,List.getElem?_append_right (by rw[Hll.out];exact Nat.le_refl _),Hll.out,Nat.sub_self];rfl
         rw[e1,e2,e3];exact ⟨HFin.out,HTop.out,by rw[HL.out,HhL.out]⟩
        have hg2:g<f:=by omega
        have e1:(hs++[h]).getD g []=hs.getD g []:=by rw[List.getD_eq_getElem?_getD,List.getD_eq_getElem?_getD,List.getElem?_append_left (by rw[Hhl.out];exact hg2)]
        have e2:(tops++[top]).getD g 0=tops.getD g 0:=by rw[List.getD_eq_getElem?_getD,List.getD_eq_getElem?_getD,List.getElem?_append_left (by rw[Htl.out];exact hg2)]
        have e3:(lps++[L]).getD g []=lps.getD g []:=by rw[List.getD_eq_getElem?_getD,List.getD_eq_getElem?_getD,List.getElem?_append_left (by rw[Hll.out];exact hg2)]
        rw[e1,e2,e3];exact HInv.out g hg2
       simp[intOf];omega
      have HBx6:=Lib.hid (HBxr.out.below hb6 HBxr.out.lt);have her2:(er != 0)=true:=by simpa using her
      have HBad:=Lib.hid (show BadAt p.plain (er,(f:Int),(nn:Int)) from .inr (.inr (.inr ⟨HLead.out,Hfp.out,f,nn,er,by have:=Hn.out;simp only[PrgM.plain,List.length_map];omega,fun g hg=>⟨_,(HInv.out g hg).1⟩,hR,her,rfl⟩)))
      have hgRX: ¬ gR=gX:=by have:=HgX.out;omega
      have hgEX: ¬ gE=gX:=by have:=HgX.out;omega
      have hBR6:=(HBR5.out.only HB.out hgRX).below hb6 (HBR5.out.only HB.out hgRX).lt;have hBE6:=(HBE5.out.only HB.out hgEX).below hb6 (HBE5.out.only HB.out hgEX).lt;obtain ⟨gF,hgF⟩:∃g,g=w6.heap.size:=⟨_,rfl⟩;obtain ⟨w7,hw7⟩:∃w7,w7=w6.alloc (.cells #[.int .i64 er,.int .i64 (f:Int),.int .i64 (nn:Int)] 37):=⟨_,rfl⟩;have HBF:=Lib.hid (show Blk w7 gF 37 #[.int .i64 er,.int .i64 (f:Int),.int .i64 (nn:Int)] from by rw[hw7,hgF];exact Blk.new _ _ _)
      have HBRz:=Lib.hid (show Blk w7 gR 32 z6 from by rw[hw7];exact hBR6.alloc _)
      have HBEz:=Lib.hid (show Blk w7 gE 37 #[.int .i64 0,.int .i64 0,.int .i64 0] from by rw[hw7];exact hBE6.alloc _)
      have HBz:=Lib.hid (show Below w.heap.size w w7 from by rw[hw7];exact (HBr.out.trans (hb6.mono HBr.out.size)).alloc (Nat.le_trans HBr.out.size hb6.size) _)
      have hFR:gF≠gR:=by have:=hBR6.lt;omega
      have hFE:gF≠gE:=by have:=hBE6.lt;omega
      dsimp only[faultV];have Hw7:=Lib.hid hw7;have HgF:=Lib.hid hgF;clear hw7 hgF hBR6 hBE6 hR her hb6 x0 x1 x2 xl;go_upto_region 15 with (fail)
      rw[←Hw7.out, ←HgF.out];have r0:w7.cell? ⟨gR,0,none⟩=some (.slice none 0 0):=HBRz.out.cell 0;have r1:w7.cell? ⟨gR,1,none⟩=some (.slice none 0 0):=HBRz.out.cell 1;have r2:w7.cell? ⟨gR,2,none⟩=some (.slice none 0 0):=HBRz.out.cell 2;have r3:w7.cell? ⟨gR,3,none⟩=some (.slice none 0 0):=HBRz.out.cell 3;have r4:w7.cell? ⟨gR,4,none⟩=some (.int .i64 0):=HBRz.out.cell 4;have r5:w7.cell? ⟨gR,5,none⟩=some (.int .i64 0):=HBRz.out.cell 5;have e0:w7.cell? ⟨gE,0,none⟩=some (.int .i64 0):=HBEz.out.cell 0;have e1:w7.cell? ⟨gE,1,none⟩=some (.int .i64 0):=HBEz.out.cell 1;have e2:w7.cell? ⟨gE,2,none⟩=some (.int .i64 0):=HBEz.out.cell 2;have rf:=HBRz.out.frozen;have ef:=HBEz.out.frozen;have rl:=HBRz.out.lt;have el:=HBEz.out.lt;have f0:w7.cell? ⟨gF,0,none⟩=some (.int .i64 er):=HBF.out.cell 0;have f1:w7.cell? ⟨gF,1,none⟩=some (.int .i64 (f:Int)):=HBF.out.cell 1;have f2:w7.cell? ⟨gF,2,none⟩=some (.int .i64 (nn:Int)):=HBF.out.cell 2;have fl:=HBF.out.lt;obtain ⟨SC,hSCd⟩:∃S:World→Prop,S=fun w'=>(w'.cell? ⟨gF,0,none⟩=some (.int .i64 er)∧w'.cell? ⟨gF,1,none⟩=some (.int .i64 (f:Int))∧w'.cell? ⟨gF,2,none⟩=some (.int .i64 (nn:Int))∧gF<w'.heap.size):=⟨_,rfl⟩;have hSC:SC w7.drew:=by rw[hSCd];exact ⟨f0,f1,f2,fl⟩
      have HSC:=Lib.hid (show SC w7.drew from hSC)
      have HSd:=Lib.hid hSCd;clear hSC hSCd;refine region_heldT 4 SC (by kernel_rfl) (by decide) ?_
      refine hwA 0 (.agg #[.slice none 0 0,.slice none 0 0,.slice none 0 0,.slice none 0 0,.int .i64 0,.int .i64 0]) HSC.out ?_;simp only[Act.put,List.setIfInBounds_toArray];refine hwA 1 (.agg #[.int .i64 er,.int .i64 (f:Int),.int .i64 (nn:Int)]) HSC.out ?_;simp only[Act.put];obtain ⟨-,-,kO⟩:=store9 w7 gR gE _ _ HBRz.out HBEz.out rfl rfl hRE (.slice none 0 0) (.slice none 0 0) (.slice none 0 0) (.slice none 0 0) (.int .i64 0) (.int .i64 0) (.int .i64 er) (.int .i64 (f:Int)) (.int .i64 (nn:Int))
      have hSC1:SC ((((((w7.setCell ⟨gR,0,none⟩ (.slice none 0 0)).setCell ⟨gR,1,none⟩ (.slice none 0 0)).setCell ⟨gR,2,none⟩ (.slice none 0 0)).setCell ⟨gR,3,none⟩ (.slice none 0 0)).setCell ⟨gR,4,none⟩ (.int .i64 0)).setCell ⟨gR,5,none⟩ (.int .i64 0)).drew:=by
       rw[HSd.out];have kO1:Only (fun k=>k=gR) w7 ((((((w7.setCell ⟨gR,0,none⟩ (.slice none 0 0)).setCell ⟨gR,1,none⟩ (.slice none 0 0)).setCell ⟨gR,2,none⟩ (.slice none 0 0)).setCell ⟨gR,3,none⟩ (.slice none 0 0)).setCell ⟨gR,4,none⟩ (.int .i64 0)).setCell ⟨gR,5,none⟩ (.int .i64 0)).drew:=(((((((Only.refl (fun k=>k=gR) w7).setCell (p:=⟨gR,0,none⟩) (.inl rfl) _).setCell (p:=⟨gR,1,none⟩) (.inl rfl) _).setCell (p:=⟨gR,2,none⟩) (.inl rfl) _).setCell (p:=⟨gR,3,none⟩) (.inl rfl) _).setCell (p:=⟨gR,4,none⟩) (.inl rfl) _).setCell (p:=⟨gR,5,none⟩) (.inl rfl) _).drew;have hz:=kO1.size;have hn:gF≠gR:=hFR;exact ⟨(kO1.cell (p:=⟨gF,0,none⟩) fl hn).trans f0,(kO1.cell (p:=⟨gF,1,none⟩) fl hn).trans f1,(kO1.cell (p:=⟨gF,2,none⟩) fl hn).trans f2,by omega⟩
      have hSC2:SC (((((((((w7.setCell ⟨gR,0,none⟩ (.slice none 0 0)).setCell ⟨gR,1,none⟩ (.slice none 0 0)).setCell ⟨gR,2,none⟩ (.slice none 0 0)).setCell ⟨gR,3,none⟩ (.slice none 0 0)).setCell ⟨gR,4,none⟩ (.int .i64 0)).setCell ⟨gR,5,none⟩ (.int .i64 0)).setCell ⟨gE,0,none⟩ (.int .i64 er)).setCell ⟨gE,1,none⟩ (.int .i64 (f:Int))).setCell ⟨gE,2,none⟩ (.int .i64 (nn:Int))).drew:=by
       rw[HSd.out];replace kO:=kO.drew
       have hz:=kO.size;have hn: ¬ (gF=gR∨gF=gE):=fun e=>e.elim hFR hFE;exact ⟨(kO.cell (p:=⟨gF,0,none⟩) fl hn).trans f0,(kO.cell (p:=⟨gF,1,none⟩) fl hn).trans f1,(kO.cell (p:=⟨gF,2,none⟩) fl hn).trans f2,by omega⟩
      clear kO;refine hwO 2 fun K hK=>?_;go_simp;refine hK.out _ _ hSC1 (fun hHeld=>?_);clear hK K hHeld;refine hwO 3 fun K hK=>?_;go_simp;refine hK.out _ _ hSC2 (fun hHeld=>?_);clear hK K hHeld;refine fun _=>⟨by kernel_rfl,?_⟩
      simp only[List.drop_succ_cons,List.drop_zero];clear HSC HSd hSC1 hSC2;clear SC;go_wp2_with fail
      obtain ⟨wf,hwf⟩:∃wf,wf=(((((((((w7.setCell ⟨gR,0,none⟩ (.slice none 0 0)).setCell ⟨gR,1,none⟩ (.slice none 0 0)).setCell ⟨gR,2,none⟩ (.slice none 0 0)).setCell ⟨gR,3,none⟩ (.slice none 0 0)).setCell ⟨gR,4,none⟩ (.int .i64 0)).setCell ⟨gR,5,none⟩ (.int .i64 0)).setCell ⟨gE,0,none⟩ (.int .i64 er)).setCell ⟨gE,1,none⟩ (.int .i64 (f:Int))).setCell ⟨gE,2,none⟩ (.int .i64 (nn:Int))).drew:=⟨_,rfl⟩;rw[←hwf];obtain ⟨k1,k2,k3⟩:=store9 w7 gR gE _ _ HBRz.out HBEz.out rfl rfl hRE (.slice none 0 0) (.slice none 0 0) (.slice none 0 0) (.slice none 0 0) (.int .i64 0) (.int .i64 0) (.int .i64 er) (.int .i64 (f:Int)) (.int .i64 (nn:Int));replace k1:Blk wf gR 32 #[.slice none 0 0,.slice none 0 0,.slice none 0 0,.slice none 0 0,.int .i64 0,.int .i64 0]:=by rw[hwf];exact k1.drew
      replace k2:Blk wf gE 37 #[.int .i64 er,.int .i64 (f:Int),.int .i64 (nn:Int)]:=by rw[hwf];exact k2.drew
      replace k3:Only (fun k=>k=gR∨k=gE) w7 wf:=by rw[hwf];exact k3.drew
      clear hwf;have hbelow:Below w.heap.size w _:=HBz.out.trans (k3.below (B:=w.heap.size) HBz.out.size fun k hk e=>by have:=Hg.out;omega)
      have q0:=k1.cell 0;have q1:=k1.cell 1;have q2:=k1.cell 2;have q3:=k1.cell 3;have q4:=k1.cell 4;have q5:=k1.cell 5;have p0:=k2.cell 0;have p1:=k2.cell 1;have p2:=k2.cell 2;dsimp at q0 q1 q2 q3 q4 q5 p0 p1 p2
      refine bodyPost_ret (v:=.tuple #[.agg #[.slice none 0 0,.slice none 0 0,.slice none 0 0,.slice none 0 0,.int .i64 0,.int .i64 0],.agg #[.int .i64 er,.int .i64 (f:Int),.int .i64 (nn:Int)]]) ?_ rfl ⟨hbelow,.inl ⟨_,HBad.out,rfl⟩⟩;simp[results,Try.results13,go_sem,q0,q1,q2,q3,q4,q5,p0,p1,p2]
     obtain rfl:f=n:=by omega
     have hnP:p.plain.fs.length=f:=by rw[Hn.out];simp[PrgM.plain]
     have hgood:=Hgood.out;have hlenF:∀g,g<f→(hs.getD g []).length=p.plain.len g:=fun g hg=>(HInv.out g hg).1.len
     have hposF:∀g,g<f→0<p.plain.len g:=fun g hg=>by
      have hgl:g<p.plain.fs.length:=by omega
      have h:=(good_fn Hck0.out (List.getElem_mem hgl)).c0;rw[Prg.len_of (List.getElem?_eq_getElem hgl)];omega
     obtain ⟨bm,hbm⟩:∃g,g=wr.heap.size:=⟨_,rfl⟩;obtain ⟨bw,hbw⟩:∃g,g=wr.heap.size+1:=⟨_,rfl⟩;obtain ⟨w8,hw8⟩:∃w8,w8=(wr.alloc (.map #[] 0)).alloc (.cells #[.int .i64 p.mem,.slice p.AD p.data.length p.cD,.slice p.AF p.fs.length p.cF,.pointer (some ⟨gX,0,none⟩),.map (some bm)] 83):=⟨_,rfl⟩;have hb8:Below wr.heap.size wr w8:=by rw[hw8];exact ((Below.refl _ _).alloc (Nat.le_refl _) _).alloc (by simp) _
     have hz8:w8.heap.size=wr.heap.size+2:=by rw[hw8];simp
     have hM8:=hM.below hb8;have hX8:=hX.below hb8 hX.lt;have hW8:Blk w8 bw 83 #[.int .i64 p.mem,.slice p.AD p.data.length p.cD,.slice p.AF p.fs.length p.cF,.pointer (some ⟨gX,0,none⟩),.map (some bm)]:=by rw[hw8,hbw];exact Blk.new2 _ _ _ _
     have hmp:w8.heap[bm]?=some (.map #[] 0):=by
      have h1:(wr.alloc (.map #[] 0)).heap[wr.heap.size]?=some (.map #[] 0):=heap_alloc_new wr _;rw[hw8,hbm];exact (Below.heap_alloc (wr.alloc (.map #[] 0)) _ _ (by simp)).trans h1
     have hltM:=hM.lt;have hFM:=hM8.fm (P:=p.plain) (n:=f) (bx:=gX) hhl.symm htl.symm hlenF hposF hX8 (by decide) (by decide)
     have hLM:=hM8.lm (n:=f) (bx:=gX) hll.symm hX8 (by decide)
     have hWF:WhF p.plain hs tops:=by
      refine ⟨by rw[hhl,hnP],fun g hg=>hlenF g (by omega),fun g j=>?_,by rw[htl,hnP],fun x hx=>?_⟩
      ·unfold htAt;by_cases hg:g<f
       ·rw[List.getD_eq_getElem?_getD (l:=hs.getD g [])];cases hx:(hs.getD g [])[j]? with
        |none=>simp
        |some x=>exact (HInv.out g hg).1.bnd j x hx
       rw[List.getD_eq_getElem?_getD (l:=hs),List.getElem?_eq_none (by omega)]
       simp
      obtain ⟨g,hg,rfl⟩:=List.getElem_of_mem hx;have hgf:g<f:=by omega
      have h:=HInv.out g hgf;rw[getD_get (d:=(0:Int)) hg] at h;exact top_bnd Hck0.out h.1 h.2.1
     have hlpF:∀g,g<f→((lps.getD g []).length=0↔∀v,Reach (nxF p.plain g) 0 v→¬ Cyc (nxF p.plain g) v):=by
      intro g hg;rw[(HInv.out g hg).2.2];refine loops_none _ _ fun v hv=>?_;obtain ⟨x,hx,-⟩:=(HInv.out g hg).1.reach Hck0.out hv;rw[←(HInv.out g hg).1.len];exact (List.getElem?_eq_some_iff.1 hx).1
     have hLk:=look_any (lps:=lps) (AL:=AL) (cH:=cH) (cT:=cT) (cL:=cL) hgood Hn.out.symm HP.out (HBr.out.trans (hb8.mono HBr.out.size)) hX8 hW8 (GMap.empty hmp (by omega)) (by have:=HgX.out;omega) (by have:=hX.lt;omega) (by omega) hFM hLM hWF (fun g hg=>(HInv.out g hg).1)
      hlpF
      (fun g hg b off hA rb ro c hc=>by
       obtain ⟨b2,r,hA2,-,hb2,hc2,hO2⟩:=rows_at hM8.hh hM8.sh hM8.oh (show g<hs.length by omega)
       obtain ⟨b3,r3,hA3,-,hb3,-⟩:=rows_at hM.hh hM.sh hM.oh (show g<hs.length by omega)
       rw[hA] at hA2 hA3;injection hA2 with hA2
       injection hA2 with e1 e2
       injection hA3 with hA3
       injection hA3 with e3 e4
       subst e1 e2;rw[Nat.zero_add] at hc;rw[hc] at hc2;injection hc2 with hc2
       injection hc2 with e5 e6 e7
       refine ⟨by omega,?_⟩
       have hl:(hs.getD g []).length=p.plain.len g:=hlenF g hg;have hrow:∀q∈HR,∀k,q.1.A.map (·.block)=some k→k<wr.heap.size:=hltM.1
       obtain ⟨q,hq,hqA⟩:∃q∈HR,q.1.A=some ⟨rb,ro,none⟩:=by
        have hlR:HR.length=hs.length:=hM.lens.1;have hR:HR[g]?=some HR[g]:=List.getElem?_eq_getElem (by omega)
        refine ⟨HR[g],List.getElem_mem _,?_⟩;obtain ⟨b4,hA4,-,-,hc4⟩:=own_pos hM8.oh (by omega)
        rw[hA] at hA4;injection hA4 with hA4
        injection hA4 with e8 e9
        subst e8;have h9:=hc4 g HR[g].1.val (by unfold hdrs;rw[List.getElem?_map,hR];rfl)
        rw[hc] at h9;injection h9 with h9
        injection h9 with h9
        exact h9.symm
       have:=hrow q hq rb (by rw[hqA];rfl)
       omega)
      (fun b off e=>by
       rcases e with e|e
       ·have:=(Own.row hM.ol b (by rw[e];rfl)).2;omega
       have:=(Own.row hM.ot b (by rw[e];rfl)).2;omega)
     have HLk:=Lib.hid hLk;have HM8:=Lib.hid hM8;have hBxx:=hBxr;have x0:wr.cell? ⟨gx,0,none⟩=some (.int .i64 p.mem):=hBxr.cell 0;have x1:wr.cell? ⟨gx,1,none⟩=some (.slice p.AD p.data.length p.cD):=hBxr.cell 1;have x2:wr.cell? ⟨gx,2,none⟩=some (.slice p.AF p.fs.length p.cF):=hBxr.cell 2;have xl:=hBxr.lt;have hgRX: ¬ gR=gX:=by have:=HgX.out;omega
     have hgEX: ¬ gE=gX:=by have:=HgX.out;omega
     have hBR8:=(HBR5.out.only hB hgRX).below hb8 (HBR5.out.only hB hgRX).lt;have hBE8:=(HBE5.out.only hB hgEX).below hb8 (HBE5.out.only hB hgEX).lt;have HBR8:=Lib.hid hBR8;have HBE8:=Lib.hid hBE8;have HX8:=Lib.hid hX8;have HB8:=Lib.hid (show Below w.heap.size w w8 from HBr.out.trans (hb8.mono HBr.out.size))
     have Hw8:=Lib.hid hw8;have Hbm:=Lib.hid hbm;have Hbw:=Lib.hid hbw
     have HltM:=Lib.hid (show (∀k,AH.map (·.block)=some k→k<bm)∧(∀k,AL.map (·.block)=some k→k<bm)∧(∀k,AT.map (·.block)=some k→k<bm)∧(∀q∈HR,∀k,q.1.A.map (·.block)=some k→k<bm)∧(∀q∈LR,∀k,q.1.A.map (·.block)=some k→k<bm) from
      ⟨fun k e=>by have:=(Own.row hM.oh k e).2;omega,fun k e=>by have:=(Own.row hM.ol k e).2;omega,fun k e=>by have:=(Own.row hM.ot k e).2;omega,fun q hq k e=>by have:=hltM.1 q hq k e;omega,fun q hq k e=>by have:=hltM.2.1 q hq k e;omega⟩)
     have HzB:=Lib.hid (show w.heap.size≤wr.heap.size from HBr.out.size)
     have HnP:=Lib.hid hnP;have HzR:=Lib.hid (show gR<wr.heap.size∧gE<wr.heap.size from ⟨(HBR5.out.only hB hgRX).lt,(HBE5.out.only hB hgEX).lt⟩)
     have Hz8:=Lib.hid hz8;clear hM hX hB hBxr hPr hgood hlenF hposF hbm hbw hw8 hb8 hz8 hM8 hX8 hW8 hmp hltM hFM hLM hWF hLk hlpF hBxx hBR8 hBE8 hnP;have Hhl:=Lib.hid hhl;have Hll:=Lib.hid hll;have Htl:=Lib.hid htl;clear hhl hll htl;go_upto_region 21 with (fail)
     rw[←Hbw.out, ←Hbm.out, ←Hw8.out];go_wp2_with fail
     refine HLk.out.mono ?_;rintro e w9 ⟨rfl,gL,ce,co,live,hX9,hL9,hll9,hlv9,hgL9,hce,hco,hO9⟩;have hgRb: ¬ (gR=gX∨gR=bm):=fun e=>by have:=HzR.out;have:=Hbm.out;omega
     have hgEb: ¬ (gE=gX∨gE=bm):=fun e=>by have:=HzR.out;have:=Hbm.out;omega
     have hBR9:=HBR8.out.only hO9 hgRb;have hBE9:=HBE8.out.only hO9 hgEb
     have hM9:RunM w9 w.heap.size hs lps tops HR LR AH cH AT cT AL cL:=HM8.out.keep hO9
      (fun q hq b e e2=>e2.elim (own_blk_ne (HM8.out.sh.own q hq) HX8.out (by decide) b e) (fun e2=>by have:=HltM.out.2.2.2.1 q hq b e;omega))
      (fun q hq b e e2=>e2.elim (own_blk_ne (HM8.out.sl.own q hq) HX8.out (by decide) b e) (fun e2=>by have:=HltM.out.2.2.2.2 q hq b e;omega))
      (fun b e e2=>e2.elim (own_blk_ne HM8.out.oh HX8.out (by decide) b e) (fun e2=>by have:=HltM.out.1 b e;omega))
      (fun b e e2=>e2.elim (own_blk_ne HM8.out.ol HX8.out (by decide) b e) (fun e2=>by have:=HltM.out.2.1 b e;omega))
      (fun b e e2=>e2.elim (own_blk_ne HM8.out.ot HX8.out (by decide) b e) (fun e2=>by have:=HltM.out.2.2.1 b e;omega))
     have HM9:=Lib.hid hM9;have HL9:=Lib.hid hL9;have HBR9:=Lib.hid hBR9;have HBE9:=Lib.hid hBE9;have HB9:=Lib.hid (show Below w.heap.size w w9 from HB8.out.trans (hO9.below (B:=w.heap.size) HB8.out.size fun k hk e=>e.elim (fun e=>by have:=HgX.out;omega) (fun e=>by have:=Hbm.out;have:=HzB.out;omega)))
     have HgL9:=Lib.hid hgL9;have HX9:=Lib.hid hX9;have HFo:=Lib.hid (show FactsOk p.plain hs tops lps live ce co from ⟨HLead.out,Hgood.out,by rw[Hhl.out,HnP.out],by rw[Htl.out,HnP.out],by rw[Hll.out,HnP.out],by rw[hll9,HnP.out],fun g hg=>(HInv.out g (by rw[←HnP.out];exact hg)).1,fun g hg=>(HInv.out g (by rw[←HnP.out];exact hg)).2.1,fun g hg=>(HInv.out g (by rw[←HnP.out];exact hg)).2.2,hlv9,hce,hco⟩)
     have Hlv:=Lib.hid hll9;have s0:w9.cell? ⟨gX,0,none⟩=some (.slice AH f cH):=hX9.cell 0;have s1:w9.cell? ⟨gX,1,none⟩=some (.slice AT f cT):=hX9.cell 1;have s2:w9.cell? ⟨gX,2,none⟩=some (.slice AL f cL):=hX9.cell 2;have s3:w9.cell? ⟨gX,3,none⟩=some (.slice (some ⟨gL,0,none⟩) f f):=hX9.cell 3;have s4:w9.cell? ⟨gX,4,none⟩=some (.int .i64 ce):=hX9.cell 4;have s5:w9.cell? ⟨gX,5,none⟩=some (.int .i64 co):=hX9.cell 5;have sl:=hX9.lt;have r0:w9.cell? ⟨gR,0,none⟩=some (.slice none 0 0):=hBR9.cell 0;have r1:w9.cell? ⟨gR,1,none⟩=some (.slice none 0 0):=hBR9.cell 1;have r2:w9.cell? ⟨gR,2,none⟩=some (.slice none 0 0):=hBR9.cell 2;have r3:w9.cell? ⟨gR,3,none⟩=some (.slice none 0 0):=hBR9.cell 3;have r4:w9.cell? ⟨gR,4,none⟩=some (.int .i64 0):=hBR9.cell 4;have r5:w9.cell? ⟨gR,5,none⟩=some (.int .i64 0):=hBR9.cell 5;have e0:w9.cell? ⟨gE,0,none⟩=some (.int .i64 0):=hBE9.cell 0;have e1:w9.cell? ⟨gE,1,none⟩=some (.int .i64 0):=hBE9.cell 1;have e2:w9.cell? ⟨gE,2,none⟩=some (.int .i64 0):=hBE9.cell 2;have rf:=hBR9.frozen;have ef:=hBE9.frozen;have rl:=hBR9.lt;have el:=hBE9.lt;clear hX9 hL9 hll9 hlv9 hgL9 hce hco hO9 hgRb hgEb hBR9 hBE9 hM9 x0 x1 x2 xl;go_wp2_with fail
     obtain ⟨k1,k2,k3⟩:=store9 w9 gR gE _ _ HBR9.out HBE9.out rfl rfl hRE (.slice AH f cH) (.slice AT f cT) (.slice AL f cL) (.slice (some ⟨gL,0,none⟩) f f) (.int .i64 ce) (.int .i64 co) (.int .i64 0) (.int .i64 0) (.int .i64 0);have hbelow:Below w.heap.size w _:=HB9.out.trans (k3.below (B:=w.heap.size) HB9.out.size fun k hk e=>by have:=Hg.out;omega)
     have HMf:=Lib.hid (HM9.out.keep k3
      (fun q hq b e e2=>e2.elim (own_blk_ne (HM9.out.sh.own q hq) HBR9.out (by decide) b e) (own_blk_ne (HM9.out.sh.own q hq) HBE9.out (by decide) b e))
      (fun q hq b e e2=>e2.elim (own_blk_ne (HM9.out.sl.own q hq) HBR9.out (by decide) b e) (own_blk_ne (HM9.out.sl.own q hq) HBE9.out (by decide) b e))
      (fun b e e2=>e2.elim (own_blk_ne HM9.out.oh HBR9.out (by decide) b e) (own_blk_ne HM9.out.oh HBE9.out (by decide) b e))
      (fun b e e2=>e2.elim (own_blk_ne HM9.out.ol HBR9.out (by decide) b e) (own_blk_ne HM9.out.ol HBE9.out (by decide) b e))
      (fun b e e2=>e2.elim (own_blk_ne HM9.out.ot HBR9.out (by decide) b e) (own_blk_ne HM9.out.ot HBE9.out (by decide) b e)))
     have HLf:=Lib.hid (Own.rebase (base':=w.heap.size) (Own.only HL9.out k3 (fun b o e e2=>e2.elim (own_blk_ne HL9.out HBR9.out (by decide) b (by rw[e];rfl)) (own_blk_ne HL9.out HBE9.out (by decide) b (by rw[e];rfl)))) (by have:=HgL9.out;have:=HB8.out.size;omega))
     have q0:=k1.cell 0;have q1:=k1.cell 1;have q2:=k1.cell 2;have q3:=k1.cell 3;have q4:=k1.cell 4;have q5:=k1.cell 5;have p0:=k2.cell 0;have p1:=k2.cell 1;have p2:=k2.cell 2;dsimp at q0 q1 q2 q3 q4 q5 p0 p1 p2
     refine bodyPost_ret (v:=.tuple #[.agg #[.slice AH f cH,.slice AT f cT,.slice AL f cL,.slice (some ⟨gL,0,none⟩) f f,.int .i64 ce,.int .i64 co],.agg #[.int .i64 0,.int .i64 0,.int .i64 0]]) ?_ rfl ⟨hbelow,.inr ⟨hs,tops,lps,live,ce,co,HR,LR,AH,cH,AT,cT,AL,cL,gL,HFo.out,HMf.out,by rw[Hlv.out];exact HLf.out,by rw[Hhl.out,Htl.out,Hll.out,Hlv.out];rfl⟩⟩
     simp[results,Try.results13,go_sem,q0,q1,q2,q3,q4,q5,p0,p1,p2]
   have hr2:(gr != 1)=true:=by simpa using hr1
   have HBad:=Lib.hid (show BadAt p.plain (139,0,0) from .inr (.inl ⟨Hck0.out,.inr (by rw[Hgr.out];exact hr1),rfl⟩))
   subst ha0;go_wp2_with fail
   obtain ⟨k1,k2,k3⟩:=store9 w2 gR gE _ _ HBR2.out HBE2.out rfl rfl hRE (.slice none 0 0) (.slice none 0 0) (.slice none 0 0) (.slice none 0 0) (.int .i64 0) (.int .i64 0) (.int .i64 139) (.int .i64 0) (.int .i64 0);have hbelow:Below w.heap.size w _:=HB2.out.trans (k3.below (B:=w.heap.size) HB2.out.size fun k hk e=>by have:=Hg.out;omega)
   have q0:=k1.cell 0;have q1:=k1.cell 1;have q2:=k1.cell 2;have q3:=k1.cell 3;have q4:=k1.cell 4;have q5:=k1.cell 5;have p0:=k2.cell 0;have p1:=k2.cell 1;have p2:=k2.cell 2;dsimp at q0 q1 q2 q3 q4 q5 p0 p1 p2
   refine bodyPost_ret (v:=.tuple #[.agg #[.slice none 0 0,.slice none 0 0,.slice none 0 0,.slice none 0 0,.int .i64 0,.int .i64 0],.agg #[.int .i64 139,.int .i64 0,.int .i64 0]]) ?_ rfl ⟨hbelow,.inl ⟨_,HBad.out,rfl⟩⟩;simp[results,Try.results13,go_sem,q0,q1,q2,q3,q4,q5,p0,p1,p2]
  have ha2:(ga != 0)=true:=by simpa using ha0
  have HBad:=Lib.hid (show BadAt p.plain (139,0,0) from .inr (.inl ⟨Hck0.out,.inl (by rw[Hga.out];exact ha0),rfl⟩))
  go_wp2_with fail
  obtain ⟨k1,k2,k3⟩:=store9 w2 gR gE _ _ HBR2.out HBE2.out rfl rfl hRE (.slice none 0 0) (.slice none 0 0) (.slice none 0 0) (.slice none 0 0) (.int .i64 0) (.int .i64 0) (.int .i64 139) (.int .i64 0) (.int .i64 0);have hbelow:Below w.heap.size w _:=HB2.out.trans (k3.below (B:=w.heap.size) HB2.out.size fun k hk e=>by have:=Hg.out;omega)
  have q0:=k1.cell 0;have q1:=k1.cell 1;have q2:=k1.cell 2;have q3:=k1.cell 3;have q4:=k1.cell 4;have q5:=k1.cell 5;have p0:=k2.cell 0;have p1:=k2.cell 1;have p2:=k2.cell 2;dsimp at q0 q1 q2 q3 q4 q5 p0 p1 p2
  refine bodyPost_ret (v:=.tuple #[.agg #[.slice none 0 0,.slice none 0 0,.slice none 0 0,.slice none 0 0,.int .i64 0,.int .i64 0],.agg #[.int .i64 139,.int .i64 0,.int .i64 0]]) ?_ rfl ⟨hbelow,.inl ⟨_,HBad.out,rfl⟩⟩;simp[results,Try.results13,go_sem,q0,q1,q2,q3,q4,q5,p0,p1,p2]
 go_wp2_with fail
 obtain ⟨k1,k2,k3⟩:=store9 w2 gR gE _ _ HBR2.out HBE2.out rfl rfl hRE (.slice none 0 0) (.slice none 0 0) (.slice none 0 0) (.slice none 0 0) (.int .i64 0) (.int .i64 0) (.int .i64 ck) (.int .i64 0) (.int .i64 0);have hbelow:Below w.heap.size w _:=HB2.out.trans (k3.below (B:=w.heap.size) HB2.out.size fun k hk e=>by have:=Hg.out;omega)
 have q0:=k1.cell 0;have q1:=k1.cell 1;have q2:=k1.cell 2;have q3:=k1.cell 3;have q4:=k1.cell 4;have q5:=k1.cell 5;have p0:=k2.cell 0;have p1:=k2.cell 1;have p2:=k2.cell 2;dsimp at q0 q1 q2 q3 q4 q5 p0 p1 p2
 refine bodyPost_ret (v:=.tuple #[.agg #[.slice none 0 0,.slice none 0 0,.slice none 0 0,.slice none 0 0,.int .i64 0,.int .i64 0],.agg #[.int .i64 ck,.int .i64 0,.int .i64 0]]) ?_ rfl ⟨hbelow,.inl ⟨(ck,0,0),.inl ⟨by rw[←Hck.out];exact h0,by rw[←Hck.out]⟩,rfl⟩⟩
 simp[results,Try.results13,go_sem,q0,q1,q2,q3,q4,q5,p0,p1,p2]
end Go.Proofs.Ytcmpmhlcfalbhaa
