import Derived.Test.YtcmpmhlcfalbhaaV11
import Derived.Test.YtcmpmhlcfalbhaaV22
import Derived.Test.YtcmpmhlcfalbhaaV25
import Derived.Test.YtcmpmhlcfalbhaaV10
import Derived.Test.YtcmpmhlcfalbhaaV27
import Derived.Laws.EntriesVeiled
import Derived.Maps.GroupsBeside
namespace Go.Proofs.Ytcmpmhlcfalbhaa
section
open Go.RowKit
structure CtQ (w0 w:World) (p:PrgM) (bw bk:Nat) (vx vm:Value):Prop where
 prg:PrgAt w0 p
 below:Below w0.heap.size w0 w
 blkW:Blk w bw 83 #[.int .i64 p.mem,.slice p.AD p.data.length p.cD,.slice p.AF p.fs.length p.cF,vx,vm]
 lw:w0.heap.size≤bw
 lk:w0.heap.size≤bk
 ne:bw≠bk
theorem CtQ.only {w0 w w':World} {p:PrgM} {bw bk:Nat} {vx vm:Value} {S:Nat→Prop} (h:CtQ w0 w p bw bk vx vm) (ho:Only S w w') (h1:∀k,k<w0.heap.size→¬ S k) (h2: ¬ S bw):CtQ w0 w' p bw bk vx vm:=
 ⟨h.prg,h.below.trans (ho.below (B:=w0.heap.size) h.below.size h1),h.blkW.only ho h2,h.lw,h.lk,h.ne⟩
theorem CtQ.prgAt {w0 w:World} {p:PrgM} {bw bk:Nat} {vx vm:Value} (h:CtQ w0 w p bw bk vx vm):PrgAt w p:=h.prg.below h.below
def CostPost (P:Prg) (hs:List (List Int)) (G:Nat) (K:List Bool) (bk:Nat) (w:World) (e:Ending) (w':World):Prop:=
 e= .returned (.int .i64 (kcL P G))∧∃K',KP (cg P hs) G K K'∧KMap w' bk K' (kcL P)∧Only (fun x=>x=bk) w w'
theorem KI.trans {cg:Nat→List Nat} {f:Nat} {a b c:List Bool} (h:KI cg f a b) (k:KI cg f b c):KI cg f a c:=
 ⟨k.len.trans h.len,fun v hv=>k.mono v (h.mono v hv),fun v hv=>(k.new v hv).elim (fun h1=>h.new v h1) .inr⟩
structure CM (w:World) (b1 gc gk gw gm gf go ga bw bk:Nat) (g:FunM) (f N:Nat) (D:List Int):Prop where
 cC:Blk w gc 29 #[.slice (some ⟨ga,0,none⟩) N N]
 own:OwnI w 0 (some ⟨ga,0,none⟩) N N D
 cK:Blk w gk 41 #[.slice g.A g.code.length g.c]
 cW:Blk w gw 79 #[.pointer (some ⟨bw,0,none⟩)]
 cM:Blk w gm 119 #[.map (some bk)]
 cF:Blk w gf 3 #[.int .i64 (f:Int)]
 cO:Blk w go 100 #[.func (.func 83) #[] #[.pointer (some ⟨gc,0,none⟩),.pointer (some ⟨gk,0,none⟩),.pointer (some ⟨gw,0,none⟩),.pointer (some ⟨gm,0,none⟩),.pointer (some ⟨gf,0,none⟩),.pointer (some ⟨go,0,none⟩)]]
structure CSep (w0:World) (gc gk gw gm gf go ga bw bk:Nat):Prop where
 a0:w0.heap.size≤ga
 ac:gc≠ga
 ak:gk≠ga
 aw:gw≠ga
 am:gm≠ga
 af:gf≠ga
 ao:go≠ga
 ab:bw≠ga
 akk:bk≠ga
 kc:gc≠bk
 kk:gk≠bk
 kw:gw≠bk
 km:gm≠bk
 kf:gf≠bk
 ko:go≠bk
section
variable {w w' w0:World} {b1 gc gk gw gm gf go ga bw bk:Nat} {g:FunM} {f N:Nat} {D:List Int}
theorem CM.only (h:CM w b1 gc gk gw gm gf go ga bw bk g f N D) (hs:CSep w0 gc gk gw gm gf go ga bw bk) (ho:Only (fun x=>x=bk) w w'):CM w' b1 gc gk gw gm gf go ga bw bk g f N D:=
 ⟨h.cC.only ho hs.kc,Own.only h.own ho (fun b _ e=>by injection e with e;injection e with e;subst e;exact fun e2=>hs.akk e2.symm),h.cK.only ho hs.kk,h.cW.only ho hs.kw,h.cM.only ho hs.km,h.cF.only ho hs.kf,h.cO.only ho hs.ko⟩
theorem CM.put (h:CM w b1 gc gk gw gm gf go ga bw bk g f N D) (hs:CSep w0 gc gk gw gm gf go ga bw bk) (j:Nat) (x:Int):CM (w.setCell ⟨ga,j,none⟩ (.int .i64 x)) b1 gc gk gw gm gf go ga bw bk g f N (D.set j x):=
 ⟨h.cC.far (p:=⟨ga,j,none⟩) hs.ac _,h.own.put j x,h.cK.far (p:=⟨ga,j,none⟩) hs.ak _,h.cW.far (p:=⟨ga,j,none⟩) hs.aw _,h.cM.far (p:=⟨ga,j,none⟩) hs.am _,h.cF.far (p:=⟨ga,j,none⟩) hs.af _,h.cO.far (p:=⟨ga,j,none⟩) hs.ao _⟩
end
def DOk (P:Prg) (f:Nat) (D:List Int):Prop:=∀(j:Nat) x,D[j]?=some x→x=0∨x=pcL P f (kcL P) j
theorem DOk.put {P:Prg} {f:Nat} {D:List Int} (h:DOk P f D) (n:Nat):DOk P f (D.set n (pcL P f (kcL P) n)):=fun j x hx=>by
 rcases set_get hx with ⟨rfl,rfl⟩|⟨-,hx⟩
 ·exact .inr rfl
 exact h j x hx
def Cost1Post (P:Prg) (hs:List (List Int)) (f N n:Nat) (K:List Bool) (b1 gc gk gw gm gf go ga bw bk:Nat) (g:FunM) (w:World) (e:Ending) (w':World):Prop:=
 e= .returned (.int .i64 (pcL P f (kcL P) n))∧∃D' K',DOk P f D'∧D'.length=N∧KI (cg P hs) f K K'∧KMap w' bk K' (kcL P)∧CM w' b1 gc gk gw gm gf go ga bw bk g f N D'∧Only (fun x=>x=bk∨x=ga) w w'
set_option maxRecDepth 100000 in
set_option maxHeartbeats 4000000 in
theorem cost1_any {p:PrgM} {g:FunM} {hs:List (List Int)} {w0:World} {b1 gc gk gw gm gf go ga bw bk nf f N:Nat} {vx vm:Value} (hg:Good p.plain) (hn:p.fs.length=nf) (S:Strt p.plain hs) (hf:f<nf) (hgf:p.fs[f]?=some g) (hr:Reach (cg p.plain hs) 0 f) (hN:N=g.code.length)
  (hsep:CSep w0 gc gk gw gm gf go ga bw bk)
  (HC:∀G∈cg p.plain hs f,∀(K:List Bool) (w:World),K.length=nf→CtQ w0 w p bw bk vx vm→KMap w bk K (kcL p.plain)→Calls Try.prog 68 #[.pointer (some ⟨bw,0,none⟩),.int .i64 (G:Int),.map (some bk)] w (CostPost p.plain hs G K bk w)):
  ∀(k n:Nat) (D:List Int) (K:List Bool) (w:World),rk (nxF p.plain f) (p.plain.len f) n<k→Reach (nxF p.plain f) 0 n→DOk p.plain f D→D.length=N→K.length=nf→CtQ w0 w p bw bk vx vm→KMap w bk K (kcL p.plain)→CM w b1 gc gk gw gm gf go ga bw bk g f N D→
   Calls Try.prog 83 #[.int .i64 (n:Int),.pointer (some ⟨gc,0,none⟩),.pointer (some ⟨gk,0,none⟩),.pointer (some ⟨gw,0,none⟩),.pointer (some ⟨gm,0,none⟩),.pointer (some ⟨gf,0,none⟩),.pointer (some ⟨go,0,none⟩)] w
    (Cost1Post p.plain hs f N n K b1 gc gk gw gm gf go ga bw bk g w):=by
 intro k
 induction k with
 |zero=>intro n D K w hk;omega
 |succ k ih=>
  intro n D K w hk hrn hD hDl hKl hQ hM hC;have hfl:f<p.plain.fs.length:=by simpa [PrgM.plain,hn] using hf
  have hlen:p.plain.len f=N:=by rw[hN];exact PrgM.len_plain hgf
  have hnN:n<N:=by
   obtain ⟨x,hx,-⟩:=(S.fin f hfl).reach hg.chk hrn;rw[←hlen, ←(S.fin f hfl).len];exact (List.getElem?_eq_some_iff.1 hx).1
  have hN2:N≤4096:=by rw[←hlen];exact good_len hg f
  obtain ⟨i,hi⟩:=Prg.ins_ex (P:=p.plain) (f:=f) (n:=n) (by rw[hlen];exact hnN)
  have hi2:g.code[n]?=some i:=by rw[p.ins_plain,hgf,Option.bind_some] at hi;exact hi
  have hP:=hQ.prgAt;obtain ⟨b0,off,hA,hb,q0,q1,q2,q3,hF,hFl⟩:=hP.fn hgf;obtain ⟨b2,off2,hA2,hb2,s0,s1,hiok,hNg⟩:=hF.ins hi2;have cc:=hC.cC.cell 0;have ck:=hC.cK.cell 0;have cw:=hC.cW.cell 0;have cf:=hC.cF.cell 0;have cm:=hC.cM.cell 0;dsimp at cc ck cw cf cm
  have lc:=hC.cC.lt;have lk:=hC.cK.lt;have lw:=hC.cW.lt;have lf:=hC.cF.lt;have lm:=hC.cM.lt;have x0:=OwnI.at_ hC.own n (by omega)
  obtain ⟨z0,al⟩:=OwnI.room hC.own n (by omega)
  obtain ⟨y,hy⟩:∃y,D[n]?=some y:=⟨_,List.getElem?_eq_getElem (by omega)⟩
  rw[show D[n]'(by omega)=y from by rw[List.getElem?_eq_getElem (by omega)] at hy;exact Option.some.inj hy] at x0
  have hn2:(n:Int)<(N:Int):=by omega
  have hn3:(n:Int)<(g.code.length:Int):=by omega
  have hpos:=pc_pos (P:=p.plain) (f:=f) (n:=n);have HD:=Lib.hid hD;have HQ:=Lib.hid hQ;have HM:=Lib.hid hM;have HCm:=Lib.hid hC;have HDl:=Lib.hid hDl;obtain ⟨R,hR⟩:∃R,R=pcL p.plain f (kcL p.plain) n:=⟨_,rfl⟩
  have Hbk2:=Lib.hid (show ¬ b2=bk∧¬ b2=ga from by
   obtain ⟨b3,off3,hA3,hb3,u0,u1,u2,u3,hF3,-⟩:=hQ.prg.fn hgf;obtain ⟨b4,off4,hA4,hb4,-⟩:=hF3.ins hi2;rw[hA2] at hA4;injection hA4 with hA4
   injection hA4 with e1 e2
   have:=hQ.lk;have:=hsep.a0;omega)
  have hE:=pc_eq S hg hr hrn (kcL p.plain);rw[←hR] at hpos hE;have Hy:=Lib.hid (hD n y hy);rw[←hR] at Hy;have HE:=Lib.hid hE;have HR:=Lib.hid hR;have Hi:=Lib.hid hi;have Hi2:=Lib.hid hi2;have Hlen:=Lib.hid hlen;have Hmc:=Lib.hid (show mostC=1099511627777 from rfl)
  have hcp:=callC_pos (P:=p.plain) (f:=f) (n:=n);have hct:=costTo_bnd (P:=p.plain) (f:=f) (n:=n) (c:=pcL p.plain f (kcL p.plain)) (B:=mostC) (by decide) (fun u _=>pc_pos.2)
  have Hct:=Lib.hid hct;have Hn:=Lib.hid hn;have HNe:=Lib.hid hN;clear hn hN;by_cases hy0:0<y
  ·have hyR:y=R:=Hy.out.resolve_left (by omega)
   subst hyR;clear hD hQ hM hC hy hR hE hi hi2 hP hA hF hct hcp hlen hiok;go_enter Try.func83,Try.ntmps83
   go_wp2_with fail
   go_ret
   exact ⟨by rw[←HR.out];rfl,D,K,HD.out,HDl.out,KI.start,HM.out,HCm.out,Only.refl _ _⟩
  have hy00:y=0:=by
   rcases Hy.out with h|h
   ·exact h
   omega
  subst hy00;obtain ⟨op,a⟩:=i;dsimp only at s0 s1;rw[hA2] at ck;have HA2:=Lib.hid hA2;clear hD hQ hM hC hy hR hE hP hA hF hct hlen hiok q0 q1 q2 q3 hA2;by_cases h17:op=17
  ·subst h17;have hcall:=S.call hg hfl hrn Hi.out rfl
   have ha0:0≤a:=by
    obtain ⟨i',e1,-,e3,-⟩:=good_call hg hcall.1;rw[Hi.out] at e1;injection e1 with e1
    subst e1;dsimp only at e3;omega
   obtain ⟨G,rfl⟩:=Int.eq_ofNat_of_zero_le ha0;have hGc:G∈cg p.plain hs f:=by simpa using hcall.2.2
   have hcG:callC p.plain f (kcL p.plain) n=kcL p.plain G:=by unfold callC;rw[Hi.out];rfl
   rw[hcG] at hcp;have hwr:IntKind.i64.wrap (1+kcL p.plain G)=1+kcL p.plain G:=by rw[IntKind.wrap_i64];have:=Hmc.out;omega
   have HK:=Lib.hid (HC G hGc K w.drew hKl (HQ.out.only (Only.refl (fun _=>False) w).drew (fun _ _ h=>h) (fun h=>h)) (HM.out.heap rfl));have HGc:=Lib.hid hGc;have HcG:=Lib.hid hcG;clear hcall hGc hi hi2 hcG;obtain ⟨ct,hct⟩:∃c,c=kcL p.plain G:=⟨_,rfl⟩;rw[←hct] at hcp hwr HcG;have Hctd:=Lib.hid hct;clear hct;go_enter Try.func83,Try.ntmps83
   go_upto_region 5 with (fail)
   obtain ⟨SC,hSCd⟩:∃S:World→Prop,S=fun w'=>(w'.cell? ⟨gw,0,none⟩=some (.pointer (some ⟨bw,0,none⟩))∧gw<w'.heap.size)∧(w'.cell? ⟨gk,0,none⟩=some (.slice (some ⟨b2,off2,none⟩) g.code.length g.c)∧gk<w'.heap.size)∧(w'.cell? ⟨b2,off2+n*2+1,none⟩=some (.int .i64 (G:Int))∧b2<w'.heap.size)∧(w'.cell? ⟨gm,0,none⟩=some (.map (some bk))∧gm<w'.heap.size):=⟨_,rfl⟩;have hSC:SC w.drew:=by rw[hSCd];exact ⟨⟨cw,lw⟩,⟨ck,lk⟩,⟨s1,hb2⟩,⟨cm,lm⟩⟩
   have HSC:=Lib.hid (show SC w.drew from hSC)
   have HSd:=Lib.hid hSCd;clear hSC hSCd;refine region_heldT 11 SC (by kernel_rfl) (by decide) ?_
   refine hwA 0 (.int .i64 1) HSC.out ?_;simp only[Act.put,List.setIfInBounds_toArray];refine hwA 1 (.pointer (some ⟨bw,0,none⟩)) HSC.out ?_;simp only[Act.put];refine hwA 2 (.slice (some ⟨b2,off2,none⟩) g.code.length g.c) HSC.out ?_;simp only[Act.put];refine hwA 3 (.int .i64 (n:Int)) HSC.out ?_;simp only[Act.put];refine hwA 4 (.pointer (some ⟨b2,off2+n*2,none⟩)) HSC.out ?_;simp only[Act.put];refine hwA 5 (.pointer (some ⟨b2,off2+n*2+1,none⟩)) HSC.out ?_;simp only[Act.put];refine hwA 6 (.int .i64 (G:Int)) HSC.out ?_;simp only[Act.put];refine hwA 7 (.map (some bk)) HSC.out ?_;simp only[Act.put];refine hwO 8 fun K hK=>?_;go_simp;refine HK.out.mono ?_;rintro e w2 ⟨rfl,K2,hP2,hM2,hO2⟩;have HP2:=Lib.hid hP2;have HM2:=Lib.hid hM2;have HO2:=Lib.hid hO2
   have hSC2:SC w2:=by
    have h:=HSC.out;rw[HSd.out] at h ⊢;obtain ⟨⟨e0,l0⟩,⟨e1,l1⟩,⟨e2,l2⟩,⟨e3,l3⟩⟩:=h;have hz:=hO2.size;refine ⟨⟨(hO2.cell l0 hsep.kw).trans e0,by omega⟩,⟨(hO2.cell l1 hsep.kk).trans e1,by omega⟩,⟨(hO2.cell l2 Hbk2.out.1).trans e2,by omega⟩,⟨(hO2.cell l3 hsep.km).trans e3,by omega⟩⟩
   rw[←Hctd.out];refine hK.out _ _ hSC2 (fun hHeld=>?_);clear hK K hHeld hP2 hM2 hO2;refine hwO 9 fun K hK=>?_;go_simp;refine hK.out _ _ hSC2 (fun hHeld=>?_);clear hK K hHeld;refine hwO 10 fun K hK=>?_;go_simp;refine hK.out _ _ hSC2 (fun hHeld=>?_);clear hK K hHeld;refine fun _=>⟨by kernel_rfl,?_⟩
   simp only[List.drop_succ_cons,List.drop_zero];obtain ⟨w3,hw3⟩:∃w3,w3=w2:=⟨_,rfl⟩;have hO3:Only (fun x=>x=bk∨x=ga) w w3:=by rw[hw3];exact ((Only.refl _ w).drew.more HO2.out fun _ _ e=> .inl e)
   have hQ3:CtQ w0 w3 p bw bk vx vm:=by
    rw[hw3];refine HQ.out.only ((Only.refl (fun x=>x=bk) w).drew.trans HO2.out) (fun k hk e=>?_) (fun e=>HQ.out.ne e);have:=HQ.out.lk;omega
   have hC3:CM w3 b1 gc gk gw gm gf go ga bw bk g f N D:=by rw[hw3];exact HCm.out.only hsep ((Only.refl _ w).drew.trans HO2.out)
   have hM3:KMap w3 bk K2 (kcL p.plain):=by rw[hw3];exact HM2.out
   have hI3:KI (cg p.plain hs) f K K2:=KI.start.step HGc.out HP2.out;have HcC:=Lib.hid (show callC p.plain f (kcL p.plain) n=ct from HcG.out)
   obtain ⟨nn,hnn⟩:∃x:Int,x=1+ct:=⟨_,rfl⟩;have hnb:1≤nn∧nn≤1099511627778:=by have:=Hmc.out;omega
   have Hnn:=Lib.hid (show nn=1+callC p.plain f (kcL p.plain) n from by rw[HcC.out];exact hnn)
   rw[←hnn, ←hw3];clear hnn HSC HSd hSC2 hwr hcp HP2 HM2 HO2 hw3 HM HQ HCm HK cc ck cw cf cm lc lk lw lf lm x0 z0 al s0 s1 hb2;clear SC w2;go_upto_region 6 with (fail)
   have cw:w3.cell? ⟨gw,0,none⟩=some (.pointer (some ⟨bw,0,none⟩)):=hC3.cW.cell 0;have cf:w3.cell? ⟨gf,0,none⟩=some (.int .i64 (f:Int)):=hC3.cF.cell 0;have y0:w3.cell? ⟨bw,0,none⟩=some (.int .i64 p.mem):=hQ3.blkW.cell 0;have y1:w3.cell? ⟨bw,1,none⟩=some (.slice p.AD p.data.length p.cD):=hQ3.blkW.cell 1;have y2:w3.cell? ⟨bw,2,none⟩=some (.slice p.AF p.fs.length p.cF):=hQ3.blkW.cell 2;have lw3:=hC3.cW.lt;have lf3:=hC3.cF.lt;have bl3:=hQ3.blkW.lt;have HQ3:=Lib.hid hQ3;have HC3:=Lib.hid hC3;have HM3:=Lib.hid hM3;have HI3:=Lib.hid hI3;have HO3:=Lib.hid hO3;have HNx:=Lib.hid (next_any p f n w3.drew (hQ3.prgAt.below ((Below.refl _ w3).drew)));clear hQ3 hC3 hM3 hI3 hO3;obtain ⟨SC,hSCd⟩:∃S:World→Prop,S=fun w'=>(w'.cell? ⟨gw,0,none⟩=some (.pointer (some ⟨bw,0,none⟩))∧gw<w'.heap.size)∧(w'.cell? ⟨bw,0,none⟩=some (.int .i64 p.mem)∧w'.cell? ⟨bw,1,none⟩=some (.slice p.AD p.data.length p.cD)∧w'.cell? ⟨bw,2,none⟩=some (.slice p.AF p.fs.length p.cF)∧bw<w'.heap.size)∧(w'.cell? ⟨gf,0,none⟩=some (.int .i64 (f:Int))∧gf<w'.heap.size):=⟨_,rfl⟩;have hSC:SC w3.drew:=by rw[hSCd];exact ⟨⟨cw,lw3⟩,⟨y0,y1,y2,bl3⟩,⟨cf,lf3⟩⟩
   have HSC:=Lib.hid (show SC w3.drew from hSC)
   have HSd:=Lib.hid hSCd;clear hSC hSCd;refine region_heldT 10 SC (by kernel_rfl) (by decide) ?_
   refine hwA 0 (.pointer (some ⟨bw,0,none⟩)) HSC.out ?_;simp only[Act.put,List.setIfInBounds_toArray];refine hwA 1 (.pointer (some ⟨bw,0,none⟩)) HSC.out ?_;simp only[Act.put];refine hwA 2 (.pointer (some ⟨bw,0,none⟩)) HSC.out ?_;simp only[Act.put];refine hwA 3 (.agg #[.int .i64 p.mem,.slice p.AD p.data.length p.cD,.slice p.AF p.fs.length p.cF]) HSC.out ?_;simp only[Act.put];refine hwA 4 (.int .i64 (f:Int)) HSC.out ?_;simp only[Act.put];refine hwA 5 (.int .i64 (n:Int)) HSC.out ?_;simp only[Act.put];refine hwA 6 (.agg #[.int .i64 (f:Int),.int .i64 (n:Int)]) HSC.out ?_;simp only[Act.put];refine hwA 9 (.int .i64 0) HSC.out ?_;simp only[Act.put];refine hwO 7 fun K hK=>?_;go_simp;refine HNx.out.mono ?_;rintro e w4 ⟨A,c,rfl,hown,hb4⟩;have Hown:=Lib.hid hown;have HB4:=Lib.hid hb4
   have hSC4:SC w4:=by
    have h:=HSC.out;rw[HSd.out] at h ⊢;obtain ⟨⟨e0,l0⟩,⟨e1,e2,e3,l1⟩,⟨e4,l4⟩⟩:=h;obtain ⟨hc,-⟩:=bcell hb4;have hz:=hb4.size;refine ⟨⟨(hc _ _ l0).trans e0,by omega⟩,⟨(hc _ _ l1).trans e1,(hc _ _ l1).trans e2,(hc _ _ l1).trans e3,by omega⟩,⟨(hc _ _ l4).trans e4,by omega⟩⟩
   refine hK.out _ _ hSC4 (fun hHeld=>?_);clear hK K hHeld hown hb4;refine hwO 8 fun K hK=>?_;go_simp;refine hK.out _ _ hSC4 (fun hHeld=>?_);clear hK K hHeld;refine fun _=>⟨by kernel_rfl,?_⟩
   simp only[List.drop_succ_cons,List.drop_zero];have hO34:Only (fun x=>x=bk∨x=ga) w3 w4:=Only.of_fresh ((Below.refl _ w3).drew.trans HB4.out);have hO34':Only (fun _=>False) w3 w4:=Only.of_fresh ((Below.refl _ w3).drew.trans HB4.out);have HQ4:=Lib.hid (HQ3.out.only hO34' (fun _ _ h=>h) (fun h=>h));have HC4:=Lib.hid (HC3.out.only hsep (Only.of_fresh ((Below.refl _ w3).drew.trans HB4.out)));have HM4:=Lib.hid (HM3.out.only hO34' (fun h=>h));have HO4:=Lib.hid (HO3.out.trans hO34);have HO34:=Lib.hid hO34;obtain ⟨m,hm⟩:∃m,m=(nextL p.plain f n).length:=⟨_,rfl⟩;have hm2:m≤2:=by rw[hm];exact nextL_len _ _ _
   have Hm:=Lib.hid (show m=(nxF p.plain f n).length from by rw[hm];unfold nxF;rw[List.length_map])
   have Hm1:=Lib.hid hm;rw[←hm];have Hlt3:=Lib.hid (show bk<w3.heap.size∧ga<w3.heap.size from ⟨HM3.out.lt,(OwnI.room HC3.out.own n (by omega)).2⟩)
   clear hm HSC HSd hSC4 hO34 hO34' cw cf y0 y1 y2 lw3 lf3 bl3 HQ3 HC3 HM3 HNx;clear SC;go_wp2_with fail
   go_loopw [10,47] (fun t i wr=>∃j:Nat,∃D' K',j≤m∧i= .int .i64 (j:Int)∧t= .int .i64 (costTo p.plain f (pcL p.plain f (kcL p.plain)) n j)∧DOk p.plain f D'∧D'.length=N∧KI (cg p.plain hs) f K K'∧KMap wr bk K' (kcL p.plain)∧CM wr b1 gc gk gw gm gf go ga bw bk g f N D'∧Only (fun x=>x=bk∨x=ga) w4 wr) (fun _ i _=>m-(intOf i).toNat)
   case atStart=>exact ⟨0,D,K2,Nat.zero_le _,rfl,by rw[costTo_zero],HD.out,hDl,HI3.out,HM4.out,HC4.out,Only.refl _ _⟩
   rename World=>wr;obtain ⟨j,D',K',hj,rfl,rfl,hD',hDl',hI,hMr,hCr,hB⟩:=hrel;have hQr:=HQ4.out.only hB (fun k hk e=>(by have:=HQ4.out.lk;have:=hsep.a0;omega)) (fun e=>e.elim HQ4.out.ne hsep.ab)
   have HQr:=Lib.hid hQr;have HD':=Lib.hid hD';have HI:=Lib.hid hI;have HMr:=Lib.hid hMr;have HCr:=Lib.hid hCr;have HB:=Lib.hid hB;have hcb:=Hct.out j;obtain ⟨M,hMd⟩:∃M,M=costTo p.plain f (pcL p.plain f (kcL p.plain)) n j:=⟨_,rfl⟩;have HMd:=Lib.hid hMd;rw[←hMd] at hcb ⊢;clear hMd;by_cases hlt:j<m
   ·have g2:(j:Int)<(m:Int):=by omega
    have hjn:j<(nxF p.plain f n).length:=by rw[←Hm.out];exact hlt
    have hjn1:j<(nextL p.plain f n).length:=by rw[←Hm1.out];exact hlt
    obtain ⟨u,hu⟩:∃u,u=(nxF p.plain f n)[j]:=⟨_,rfl⟩;have hum:u∈nxF p.plain f n:=by rw[hu];exact List.getElem_mem hjn
    have hu1:(nextL p.plain f n)[j]=(u:Int):=by
     have h0:∀y∈nextL p.plain f n,0≤y:=fun y hy=>by
      rw[nextL_ins Hi.out] at hy;have:=(List.mem_filter.1 hy).2;simp only[Bool.and_eq_true,decide_eq_true_eq] at this;exact this.1
     have h1:=h0 _ (List.getElem_mem hjn1)
     have h2:(nxF p.plain f n)[j]=((nextL p.plain f n)[j]).toNat:=by
      have e:(nxF p.plain f n)[j]?=some ((nextL p.plain f n)[j]).toNat:=by unfold nxF;rw[List.getElem?_map,List.getElem?_eq_getElem hjn1];rfl
      exact (List.getElem?_eq_some_iff.1 e).2
     rw[hu,h2];omega
    have hown4:RV wr A ((nextL p.plain f n).map iv):=(RV.of_own Hown.out).only HB.out fun _ b o e=>by
     have h1:=(Own.row Hown.out b (by rw[e];rfl)).1
     have h2:=Hlt3.out;change w3.heap.size≤b at h1
     rintro (e2|e2)<;>omega
    obtain ⟨rb,ro,rfl,hrl,hrc⟩:=hown4.at_ (by rw[List.length_map];omega)
    have r0:=hrc j (.int .i64 (u:Int)) (by rw[List.getElem?_map,List.getElem?_eq_getElem hjn1,hu1];rfl)
    have co:=hCr.cO.cell 0;dsimp at co
    have lo:=hCr.cO.lt;have HK1:=Lib.hid (ih u D' K' wr (by have:=rk_lt (n:=p.plain.len f) (by rw[Hlen.out];exact hnN) hum (S.straight f hr n hrn);omega) (hrn.trans (.one hum)) hD' hDl' (hI.len.trans hKl) hQr hMr hCr)
    have Hum:=Lib.hid hum;have Hu:=Lib.hid hu;have HjN:=Lib.hid hjn;clear hown4 hrc hu1 hum hQr hD' hI hMr hCr hB hjn1 hu;go_wp2_with fail
    refine HK1.out.mono ?_;rintro e w5 ⟨rfl,D2,K3,hD2,hDl2,hI2,hM2,hC2,hO2⟩;have HD2:=Lib.hid hD2;have HI2:=Lib.hid hI2;have HM2:=Lib.hid hM2;have HC2:=Lib.hid hC2;have HO2:=Lib.hid hO2;have hpu:=pc_pos (P:=p.plain) (f:=f) (n:=u);have Hnxt:=Lib.hid (costTo_next (c:=pcL p.plain f (kcL p.plain)) HjN.out);rw[←Hu.out, ←HMd.out] at Hnxt;obtain ⟨pu,hpud⟩:∃x,x=pcL p.plain f (kcL p.plain) u:=⟨_,rfl⟩;rw[←hpud] at hpu Hnxt ⊢;clear hpud hD2 hI2 hM2 hC2 hO2;have hmx:=run_max2 M pu;go_wp2_with fail
    refine ⟨⟨j+1,D2,K3,by omega,rfl,(by rw[Hnxt.out]),HD2.out,hDl2,HI.out.trans HI2.out,HM2.out,HC2.out,HB.out.trans HO2.out⟩,?_⟩
    simp[intOf];omega
   obtain rfl:j=m:=by omega
   have cc:wr.cell? ⟨gc,0,none⟩=some (.slice (some ⟨ga,0,none⟩) N N):=hCr.cC.cell 0;have lc:=hCr.cC.lt;have x0:=OwnI.at_ hCr.own n (by omega)
   obtain ⟨z0,al⟩:=OwnI.room hCr.own n (by omega)
   have HRf:=Lib.hid (show R=min (nn+M) mostC from by rw[HE.out,Hnn.out,HMd.out,Hm.out])
   have hw1:IntKind.i64.wrap (nn+M)=nn+M:=by rw[IntKind.wrap_i64];have:=Hmc.out;omega
   have hgn1: ¬ gc=ga:=hsep.ac;have hgn2: ¬ ga=gc:=fun e=>hsep.ac e.symm;have HCp:=Lib.hid (hCr.put hsep n R);have HDp:=Lib.hid (show DOk p.plain f (D'.set n R) from by rw[HR.out];exact hD'.put n)
   have HMp:=Lib.hid (hMr.only ((Only.refl (fun x=>x=ga) wr).setCell (p:=⟨ga,n,none⟩) (.inl rfl) (.int .i64 R)) hsep.akk);have HOp:=Lib.hid (HO4.out.trans (hB.setCell (p:=⟨ga,n,none⟩) (.inl (.inr rfl)) (.int .i64 R)));generalize D'[n]'(by omega)=x00 at x0
   clear hQr hD' hI hMr hCr hB;by_cases hcap:1099511627777<nn+M
   ·have hRv:R=1099511627777:=by rw[HRf.out];have:=Hmc.out;omega
    have HRv:=Lib.hid hRv;clear hRv;go_wp2_with fail
    go_ret
    rw[←HRv.out];exact ⟨by rw[←HR.out,HRv.out];try rfl,D'.set n R,K',HDp.out,by rw[List.length_set];exact hDl',HI.out,HMp.out,HCp.out,HOp.out⟩
   have hRv:R=nn+M:=by rw[HRf.out];have:=Hmc.out;omega
   have HRv:=Lib.hid hRv;clear hRv;go_wp2_with fail
   go_ret
   rw[←HRv.out];exact ⟨by rw[←HR.out,HRv.out];try rfl,D'.set n R,K',HDp.out,by rw[List.length_set];exact hDl',HI.out,HMp.out,HCp.out,HOp.out⟩
  have hcG:callC p.plain f (kcL p.plain) n=0:=by
   unfold callC;rw[Hi.out];dsimp only;rw[if_neg h17]
  have HcG:=Lib.hid hcG;clear hi hi2 hcG hcp;go_enter Try.func83,Try.ntmps83
  go_upto_region 6 with (fail)
  obtain ⟨w3,hw3⟩:∃w3,w3=w:=⟨_,rfl⟩;have hO3:Only (fun x=>x=bk∨x=ga) w w3:=by rw[hw3];exact Only.refl _ _
  have hQ3:CtQ w0 w3 p bw bk vx vm:=by rw[hw3];exact HQ.out
  have hC3:CM w3 b1 gc gk gw gm gf go ga bw bk g f N D:=by rw[hw3];exact HCm.out
  have hM3:KMap w3 bk K (kcL p.plain):=by rw[hw3];exact HM.out
  have hI3:KI (cg p.plain hs) f K K:=KI.start;obtain ⟨nn,hnn⟩:∃x:Int,x=1:=⟨_,rfl⟩;have hnb:1≤nn∧nn≤1099511627778:=by omega
  have Hnn:=Lib.hid (show nn=1+callC p.plain f (kcL p.plain) n from by rw[HcG.out];omega)
  have hKl2:=hKl;rw[←hnn, ←hw3];clear hnn HM HQ HCm cc ck cw cf cm lc lk lw lf lm x0 z0 al s0 s1 hb2 hw3;obtain ⟨K2,hK2⟩:∃K2,K2=K:=⟨_,rfl⟩;have cw:w3.cell? ⟨gw,0,none⟩=some (.pointer (some ⟨bw,0,none⟩)):=hC3.cW.cell 0;have cf:w3.cell? ⟨gf,0,none⟩=some (.int .i64 (f:Int)):=hC3.cF.cell 0;have y0:w3.cell? ⟨bw,0,none⟩=some (.int .i64 p.mem):=hQ3.blkW.cell 0;have y1:w3.cell? ⟨bw,1,none⟩=some (.slice p.AD p.data.length p.cD):=hQ3.blkW.cell 1;have y2:w3.cell? ⟨bw,2,none⟩=some (.slice p.AF p.fs.length p.cF):=hQ3.blkW.cell 2;have lw3:=hC3.cW.lt;have lf3:=hC3.cF.lt;have bl3:=hQ3.blkW.lt;have HQ3:=Lib.hid hQ3;have HC3:=Lib.hid hC3;have HM3:=Lib.hid hM3;have HI3:=Lib.hid hI3;have HO3:=Lib.hid hO3;have HNx:=Lib.hid (next_any p f n w3.drew (hQ3.prgAt.below ((Below.refl _ w3).drew)));clear hQ3 hC3 hM3 hI3 hO3;obtain ⟨SC,hSCd⟩:∃S:World→Prop,S=fun w'=>(w'.cell? ⟨gw,0,none⟩=some (.pointer (some ⟨bw,0,none⟩))∧gw<w'.heap.size)∧(w'.cell? ⟨bw,0,none⟩=some (.int .i64 p.mem)∧w'.cell? ⟨bw,1,none⟩=some (.slice p.AD p.data.length p.cD)∧w'.cell? ⟨bw,2,none⟩=some (.slice p.AF p.fs.length p.cF)∧bw<w'.heap.size)∧(w'.cell? ⟨gf,0,none⟩=some (.int .i64 (f:Int))∧gf<w'.heap.size):=⟨_,rfl⟩;have hSC:SC w3.drew:=by rw[hSCd];exact ⟨⟨cw,lw3⟩,⟨y0,y1,y2,bl3⟩,⟨cf,lf3⟩⟩
  have HSC:=Lib.hid (show SC w3.drew from hSC)
  have HSd:=Lib.hid hSCd;clear hSC hSCd;refine region_heldT 10 SC (by kernel_rfl) (by decide) ?_
  refine hwA 0 (.pointer (some ⟨bw,0,none⟩)) HSC.out ?_;simp only[Act.put,List.setIfInBounds_toArray];refine hwA 1 (.pointer (some ⟨bw,0,none⟩)) HSC.out ?_;simp only[Act.put];refine hwA 2 (.pointer (some ⟨bw,0,none⟩)) HSC.out ?_;simp only[Act.put];refine hwA 3 (.agg #[.int .i64 p.mem,.slice p.AD p.data.length p.cD,.slice p.AF p.fs.length p.cF]) HSC.out ?_;simp only[Act.put];refine hwA 4 (.int .i64 (f:Int)) HSC.out ?_;simp only[Act.put];refine hwA 5 (.int .i64 (n:Int)) HSC.out ?_;simp only[Act.put];refine hwA 6 (.agg #[.int .i64 (f:Int),.int .i64 (n:Int)]) HSC.out ?_;simp only[Act.put];refine hwA 9 (.int .i64 0) HSC.out ?_;simp only[Act.put];refine hwO 7 fun K hK=>?_;go_simp;refine HNx.out.mono ?_;rintro e w4 ⟨A,c,rfl,hown,hb4⟩;have Hown:=Lib.hid hown;have HB4:=Lib.hid hb4
  have hSC4:SC w4:=by
   have h:=HSC.out;rw[HSd.out] at h ⊢;obtain ⟨⟨e0,l0⟩,⟨e1,e2,e3,l1⟩,⟨e4,l4⟩⟩:=h;obtain ⟨hc,-⟩:=bcell hb4;have hz:=hb4.size;refine ⟨⟨(hc _ _ l0).trans e0,by omega⟩,⟨(hc _ _ l1).trans e1,(hc _ _ l1).trans e2,(hc _ _ l1).trans e3,by omega⟩,⟨(hc _ _ l4).trans e4,by omega⟩⟩
  refine hK.out _ _ hSC4 (fun hHeld=>?_);clear hK K hHeld hown hb4;refine hwO 8 fun K hK=>?_;go_simp;refine hK.out _ _ hSC4 (fun hHeld=>?_);clear hK K hHeld;refine fun _=>⟨by kernel_rfl,?_⟩
  simp only[List.drop_succ_cons,List.drop_zero];have hO34:Only (fun x=>x=bk∨x=ga) w3 w4:=Only.of_fresh ((Below.refl _ w3).drew.trans HB4.out);have hO34':Only (fun _=>False) w3 w4:=Only.of_fresh ((Below.refl _ w3).drew.trans HB4.out);have HQ4:=Lib.hid (HQ3.out.only hO34' (fun _ _ h=>h) (fun h=>h));have HC4:=Lib.hid (HC3.out.only hsep (Only.of_fresh ((Below.refl _ w3).drew.trans HB4.out)));have HM4:=Lib.hid (HM3.out.only hO34' (fun h=>h));have HO4:=Lib.hid (HO3.out.trans hO34);have HO34:=Lib.hid hO34;obtain ⟨m,hm⟩:∃m,m=(nextL p.plain f n).length:=⟨_,rfl⟩;have hm2:m≤2:=by rw[hm];exact nextL_len _ _ _
  have Hm:=Lib.hid (show m=(nxF p.plain f n).length from by rw[hm];unfold nxF;rw[List.length_map])
  have Hm1:=Lib.hid hm;rw[←hm];have Hlt3:=Lib.hid (show bk<w3.heap.size∧ga<w3.heap.size from ⟨HM3.out.lt,(OwnI.room HC3.out.own n (by omega)).2⟩)
  clear hm HSC HSd hSC4 hO34 hO34' cw cf y0 y1 y2 lw3 lf3 bl3 HQ3 HC3 HM3 HNx;clear SC;go_wp2_with fail
  go_loopw [10,47] (fun t i wr=>∃j:Nat,∃D' K',j≤m∧i= .int .i64 (j:Int)∧t= .int .i64 (costTo p.plain f (pcL p.plain f (kcL p.plain)) n j)∧DOk p.plain f D'∧D'.length=N∧KI (cg p.plain hs) f K K'∧KMap wr bk K' (kcL p.plain)∧CM wr b1 gc gk gw gm gf go ga bw bk g f N D'∧Only (fun x=>x=bk∨x=ga) w4 wr) (fun _ i _=>m-(intOf i).toNat)
  case atStart=>exact ⟨0,D,K,Nat.zero_le _,rfl,by rw[costTo_zero],HD.out,hDl,HI3.out,HM4.out,HC4.out,Only.refl _ _⟩
  rename World=>wr;obtain ⟨j,D',K',hj,rfl,rfl,hD',hDl',hI,hMr,hCr,hB⟩:=hrel;have hQr:=HQ4.out.only hB (fun k hk e=>(by have:=HQ4.out.lk;have:=hsep.a0;omega)) (fun e=>e.elim HQ4.out.ne hsep.ab)
  have HQr:=Lib.hid hQr;have HD':=Lib.hid hD';have HI:=Lib.hid hI;have HMr:=Lib.hid hMr;have HCr:=Lib.hid hCr;have HB:=Lib.hid hB;have hcb:=Hct.out j;obtain ⟨M,hMd⟩:∃M,M=costTo p.plain f (pcL p.plain f (kcL p.plain)) n j:=⟨_,rfl⟩;have HMd:=Lib.hid hMd;rw[←hMd] at hcb ⊢;clear hMd;by_cases hlt:j<m
  ·have g2:(j:Int)<(m:Int):=by omega
   have hjn:j<(nxF p.plain f n).length:=by rw[←Hm.out];exact hlt
   have hjn1:j<(nextL p.plain f n).length:=by rw[←Hm1.out];exact hlt
   obtain ⟨u,hu⟩:∃u,u=(nxF p.plain f n)[j]:=⟨_,rfl⟩;have hum:u∈nxF p.plain f n:=by rw[hu];exact List.getElem_mem hjn
   have hu1:(nextL p.plain f n)[j]=(u:Int):=by
    have h0:∀y∈nextL p.plain f n,0≤y:=fun y hy=>by
     rw[nextL_ins Hi.out] at hy;have:=(List.mem_filter.1 hy).2;simp only[Bool.and_eq_true,decide_eq_true_eq] at this;exact this.1
    have h1:=h0 _ (List.getElem_mem hjn1)
    have h2:(nxF p.plain f n)[j]=((nextL p.plain f n)[j]).toNat:=by
     have e:(nxF p.plain f n)[j]?=some ((nextL p.plain f n)[j]).toNat:=by unfold nxF;rw[List.getElem?_map,List.getElem?_eq_getElem hjn1];rfl
     exact (List.getElem?_eq_some_iff.1 e).2
    rw[hu,h2];omega
   have hown4:RV wr A ((nextL p.plain f n).map iv):=(RV.of_own Hown.out).only HB.out fun _ b o e=>by
    have h1:=(Own.row Hown.out b (by rw[e];rfl)).1
    have h2:=Hlt3.out;change w3.heap.size≤b at h1
    rintro (e2|e2)<;>omega
   obtain ⟨rb,ro,rfl,hrl,hrc⟩:=hown4.at_ (by rw[List.length_map];omega)
   have r0:=hrc j (.int .i64 (u:Int)) (by rw[List.getElem?_map,List.getElem?_eq_getElem hjn1,hu1];rfl)
   have co:=hCr.cO.cell 0;dsimp at co
   have lo:=hCr.cO.lt;have HK1:=Lib.hid (ih u D' K' wr (by have:=rk_lt (n:=p.plain.len f) (by rw[Hlen.out];exact hnN) hum (S.straight f hr n hrn);omega) (hrn.trans (.one hum)) hD' hDl' (hI.len.trans hKl) hQr hMr hCr)
   have Hum:=Lib.hid hum;have Hu:=Lib.hid hu;have HjN:=Lib.hid hjn;clear hown4 hrc hu1 hum hQr hD' hI hMr hCr hB hjn1 hu;go_wp2_with fail
   refine HK1.out.mono ?_;rintro e w5 ⟨rfl,D2,K3,hD2,hDl2,hI2,hM2,hC2,hO2⟩;have HD2:=Lib.hid hD2;have HI2:=Lib.hid hI2;have HM2:=Lib.hid hM2;have HC2:=Lib.hid hC2;have HO2:=Lib.hid hO2;have hpu:=pc_pos (P:=p.plain) (f:=f) (n:=u);have Hnxt:=Lib.hid (costTo_next (c:=pcL p.plain f (kcL p.plain)) HjN.out);rw[←Hu.out, ←HMd.out] at Hnxt;obtain ⟨pu,hpud⟩:∃x,x=pcL p.plain f (kcL p.plain) u:=⟨_,rfl⟩;rw[←hpud] at hpu Hnxt ⊢;clear hpud hD2 hI2 hM2 hC2 hO2;have hmx:=run_max2 M pu;go_wp2_with fail
   refine ⟨⟨j+1,D2,K3,by omega,rfl,(by rw[Hnxt.out]),HD2.out,hDl2,HI.out.trans HI2.out,HM2.out,HC2.out,HB.out.trans HO2.out⟩,?_⟩
   simp[intOf];omega
  obtain rfl:j=m:=by omega
  have cc:wr.cell? ⟨gc,0,none⟩=some (.slice (some ⟨ga,0,none⟩) N N):=hCr.cC.cell 0;have lc:=hCr.cC.lt;have x0:=OwnI.at_ hCr.own n (by omega)
  obtain ⟨z0,al⟩:=OwnI.room hCr.own n (by omega)
  have HRf:=Lib.hid (show R=min (nn+M) mostC from by rw[HE.out,Hnn.out,HMd.out,Hm.out])
  have hw1:IntKind.i64.wrap (nn+M)=nn+M:=by rw[IntKind.wrap_i64];have:=Hmc.out;omega
  have hgn1: ¬ gc=ga:=hsep.ac;have hgn2: ¬ ga=gc:=fun e=>hsep.ac e.symm;have HCp:=Lib.hid (hCr.put hsep n R);have HDp:=Lib.hid (show DOk p.plain f (D'.set n R) from by rw[HR.out];exact hD'.put n)
  have HMp:=Lib.hid (hMr.only ((Only.refl (fun x=>x=ga) wr).setCell (p:=⟨ga,n,none⟩) (.inl rfl) (.int .i64 R)) hsep.akk);have HOp:=Lib.hid (HO4.out.trans (hB.setCell (p:=⟨ga,n,none⟩) (.inl (.inr rfl)) (.int .i64 R)));generalize D'[n]'(by omega)=x00 at x0
  clear hQr hD' hI hMr hCr hB;by_cases hcap:1099511627777<nn+M
  ·have hRv:R=1099511627777:=by rw[HRf.out];have:=Hmc.out;omega
   have HRv:=Lib.hid hRv;clear hRv;go_wp2_with fail
   go_ret
   rw[←HRv.out];exact ⟨by rw[←HR.out,HRv.out];try rfl,D'.set n R,K',HDp.out,by rw[List.length_set];exact hDl',HI.out,HMp.out,HCp.out,HOp.out⟩
  have hRv:R=nn+M:=by rw[HRf.out];have:=Hmc.out;omega
  have HRv:=Lib.hid hRv;clear hRv;go_wp2_with fail
  go_ret
  rw[←HRv.out];exact ⟨by rw[←HR.out,HRv.out];try rfl,D'.set n R,K',HDp.out,by rw[List.length_set];exact hDl',HI.out,HMp.out,HCp.out,HOp.out⟩
end
section
open Go.RowKit
theorem blk3 (w:World) (a b c:Array Value) (ta tb tc:TypeId):Blk (((w.alloc (.cells a ta)).alloc (.cells b tb)).alloc (.cells c tc)) w.heap.size ta a∧Blk (((w.alloc (.cells a ta)).alloc (.cells b tb)).alloc (.cells c tc)) (w.heap.size+1) tb b∧Blk (((w.alloc (.cells a ta)).alloc (.cells b tb)).alloc (.cells c tc)) (w.heap.size+1+1) tc c:=by
 have h3:=Blk.new2 (w.alloc (.cells a ta)) (.cells b tb) tc c;rw[World.size_alloc] at h3;exact ⟨((Blk.new w ta a).alloc _).alloc _,(Blk.new2 w _ tb b).alloc _,h3⟩
set_option maxRecDepth 100000 in
set_option maxHeartbeats 4000000 in
theorem cost_any {p:PrgM} {hs:List (List Int)} {w0:World} {bw bk nf:Nat} {vx vm:Value} (hg:Good p.plain) (hn:p.fs.length=nf) (S:Strt p.plain hs):
  ∀(k f:Nat) (K:List Bool) (w:World),rk (cg p.plain hs) p.plain.fs.length f<k→f<nf→Reach (cg p.plain hs) 0 f→K.length=nf→CtQ w0 w p bw bk vx vm→KMap w bk K (kcL p.plain)→
   Calls Try.prog 68 #[.pointer (some ⟨bw,0,none⟩),.int .i64 (f:Int),.map (some bk)] w (CostPost p.plain hs f K bk w):=by
 intro k
 induction k with
 |zero=>intro f K w hk;omega
 |succ k ih=>
  intro f K w hk hf hr hKl hQ hM;have hn64:nf≤64:=by have:=(good_many hg.chk).2;rw[←hn];simpa [PrgM.plain] using this
  obtain ⟨v,hv⟩:∃v,K[f]?=some v:=⟨_,List.getElem?_eq_getElem (by omega)⟩
  have hfl:f<p.plain.fs.length:=by simpa [PrgM.plain,hn] using hf
  have hcb:=kcF_pos (P:=p.plain) (p.plain.fs.length+1) f;change 0≤kcL p.plain f∧kcL p.plain f≤1099511627777 at hcb
  have HQ:=Lib.hid hQ;have HM:=Lib.hid hM;have Hv:=Lib.hid hv;have Hn:=Lib.hid hn;obtain ⟨w1,hw1⟩:∃w1,w1=((w.alloc (.cells #[.pointer (some ⟨bw,0,none⟩)] 79)).alloc (.cells #[.int .i64 (f:Int)] 3)).alloc (.cells #[.map (some bk)] 119):=⟨_,rfl⟩;have hb1:Below w.heap.size w w1:=by rw[hw1];exact (((Below.refl _ _).alloc (Nat.le_refl _) _).alloc (by simp) _).alloc (by simp;omega) _
  have hz1:w1.heap.size=w.heap.size+3:=by rw[hw1];simp
  have hB3:=blk3 w #[.pointer (some ⟨bw,0,none⟩)] #[.int .i64 (f:Int)] #[.map (some bk)] 79 3 119;rw[←hw1] at hB3;obtain ⟨gw,hgw⟩:∃g,g=w.heap.size:=⟨_,rfl⟩;obtain ⟨gf,hgf1⟩:∃g,g=w.heap.size+1:=⟨_,rfl⟩;obtain ⟨gm,hgm⟩:∃g,g=w.heap.size+1+1:=⟨_,rfl⟩;rw[←hgm, ←hgf1, ←hgw] at hB3;obtain ⟨hBw,hBf,hBm⟩:=hB3;have hO1:Only (fun x=>x=bk) w w1:=Only.of_fresh hb1;have hO1':Only (fun _=>False) w w1:=Only.of_fresh hb1;have hQ1:=hQ.only hO1' (fun _ _ h=>h) (fun h=>h);have hM1:=hM.only hO1' (fun h=>h);have Hg:=Lib.hid (show gw=w.heap.size∧gf=w.heap.size+1∧gm=w.heap.size+1+1∧w1.heap.size=w.heap.size+3 from ⟨hgw,hgf1,hgm,hz1⟩)
  have Hw1:=Lib.hid hw1;have HO1:=Lib.hid hO1;have Hbk:=Lib.hid hM.lt;have cw:w1.cell? ⟨gw,0,none⟩=some (.pointer (some ⟨bw,0,none⟩)):=hBw.cell 0;have cf:w1.cell? ⟨gf,0,none⟩=some (.int .i64 (f:Int)):=hBf.cell 0;have cm:w1.cell? ⟨gm,0,none⟩=some (.map (some bk)):=hBm.cell 0;have lw1:=hBw.lt;have lf1:=hBf.lt;have lm1:=hBm.lt;have HBw:=Lib.hid hBw;have HBf:=Lib.hid hBf;have HBm:=Lib.hid hBm;cases v with
  |true=>
   have hlk:=hM1.yes (by omega) hv
   have HM1:=Lib.hid hM1;clear hQ hM hv hn hw1 hb1 hz1 hgw hgf1 hgm hBw hBf hBm hO1 hO1' hQ1 hM1;obtain ⟨x,hx⟩:∃x,x=kcL p.plain f:=⟨_,rfl⟩;rw[←hx] at hlk hcb;have Hx:=Lib.hid hx;clear hx;go_enter Try.func68,Try.ntmps68
   go_wp2_with (refine wpList_at 13 rfl ?_;refine wp_stop ?_)
   try refine ⟨?_⟩
   rw[←Hw1.out, ←Hg.out.2.2.1, ←Hg.out.2.1, ←Hg.out.1];go_wp2_with fail
   go_ret
   exact ⟨by rw[←Hx.out];try rfl,K,KP.was Hv.out,HM1.out,HO1.out⟩
  |false=>
   have hlk:=hM1.no (by omega) hv
   have hP1:=hQ1.prgAt;obtain ⟨g,hgf⟩:∃g,p.fs[f]?=some g:=⟨_,List.getElem?_eq_getElem (by omega)⟩
   obtain ⟨b0,off,hA,hb,q0,q1,q2,q3,hF,hFl⟩:=hP1.fn hgf;have y2:w1.cell? ⟨bw,2,none⟩=some (.slice (some ⟨b0,off,none⟩) p.fs.length p.cF):=by rw[←hA];exact hQ1.blkW.cell 2
   have wl1:=hQ1.blkW.lt;have g3:(f:Int)<(p.fs.length:Int):=by omega
   obtain ⟨N,hN⟩:∃N,N=g.code.length:=⟨_,rfl⟩;have hlen:p.plain.len f=N:=by rw[hN];exact PrgM.len_plain hgf
   have hN2:N≤4096:=by rw[←hlen];exact good_len hg f
   have hN1:0<N:=by
    have h:=(good_fn hg.chk (show g.plain∈p.plain.fs from List.mem_map.2 ⟨g,List.mem_of_getElem? hgf,rfl⟩)).c0
    change 1≤g.code.length at h
    omega
   rw[←hN] at q3;have hmkI:=run_ints N (by omega)
   have HN:=Lib.hid hN;have Hlen:=Lib.hid hlen;have Hgf:=Lib.hid hgf;have HQ1:=Lib.hid hQ1;have HM1:=Lib.hid hM1;clear hQ hM hv hn hw1 hb1 hz1 hgw hgf1 hgm hBw hBf hBm hO1 hO1' hQ1 hM1 hP1 hA q0 q1 q2 hF hN hlen hgf;go_enter Try.func68,Try.ntmps68
   go_wp2_with (refine wpList_at 13 rfl ?_;refine wp_stop ?_)
   try refine ⟨?_⟩
   rw[←Hw1.out, ←Hg.out.2.2.1, ←Hg.out.2.1, ←Hg.out.1];go_upto_region 4 with (fail)
   obtain ⟨SC,hSCd⟩:∃S:World→Prop,S=fun w'=>(w'.cell? ⟨gw,0,none⟩=some (.pointer (some ⟨bw,0,none⟩))∧gw<w'.heap.size)∧(w'.cell? ⟨bw,2,none⟩=some (.slice (some ⟨b0,off,none⟩) p.fs.length p.cF)∧bw<w'.heap.size)∧(w'.cell? ⟨gf,0,none⟩=some (.int .i64 (f:Int))∧gf<w'.heap.size)∧(w'.cell? ⟨b0,off+f*4+3,none⟩=some (.slice g.A N g.c)∧b0<w'.heap.size):=⟨_,rfl⟩;have hSC:SC w1.drew:=by rw[hSCd];exact ⟨⟨cw,lw1⟩,⟨y2,wl1⟩,⟨cf,lf1⟩,⟨q3,hb⟩⟩
   have HSC:=Lib.hid (show SC w1.drew from hSC)
   have HSd:=Lib.hid hSCd;clear hSC hSCd;refine region_heldT 11 SC (by kernel_rfl) (by decide) ?_
   refine hwA 0 (.pointer (some ⟨bw,0,none⟩)) HSC.out ?_;simp only[Act.put,List.setIfInBounds_toArray];refine hwA 1 (.pointer (some ⟨bw,0,none⟩)) HSC.out ?_;simp only[Act.put];refine hwA 2 (.pointer (some ⟨bw,0,none⟩)) HSC.out ?_;simp only[Act.put];refine hwA 3 (.pointer (some ⟨bw,2,none⟩)) HSC.out ?_;simp only[Act.put];refine hwA 4 (.slice (some ⟨b0,off,none⟩) p.fs.length p.cF) HSC.out ?_;simp only[Act.put];refine hwA 5 (.int .i64 (f:Int)) HSC.out ?_;simp only[Act.put];refine hwA 6 (.pointer (some ⟨b0,off+f*4,none⟩)) HSC.out ?_;simp only[Act.put];refine hwA 7 (.pointer (some ⟨b0,off+f*4+3,none⟩)) HSC.out ?_;simp only[Act.put];refine hwA 8 (.slice g.A N g.c) HSC.out ?_;simp only[Act.put]
   have hSC1:SC (w1.drew.alloc (.cells #[.slice none 0 0] 41)):=by
    have h:=HSC.out;rw[HSd.out] at h ⊢;obtain ⟨⟨e0,l0⟩,⟨e1,l1⟩,⟨e2,l2⟩,⟨e3,l3⟩⟩:=h;have hb:Below w1.drew.heap.size w1.drew (w1.drew.alloc (.cells #[.slice none 0 0] 41)):=(Below.refl _ _).alloc (Nat.le_refl _) _;obtain ⟨hc,-⟩:=bcell hb;have hz:=hb.size;exact ⟨⟨(hc _ _ l0).trans e0,by omega⟩,⟨(hc _ _ l1).trans e1,by omega⟩,⟨(hc _ _ l2).trans e2,by omega⟩,⟨(hc _ _ l3).trans e3,by omega⟩⟩
   refine hwO 9 fun K hK=>?_;go_simp;refine hK.out _ _ hSC1 (fun hHeld=>?_);clear hK K hHeld
   have hSC2:SC (w1.drew.alloc (.cells #[.slice g.A N g.c] 41)):=by
    have h:=HSC.out;rw[HSd.out] at h ⊢;obtain ⟨⟨e0,l0⟩,⟨e1,l1⟩,⟨e2,l2⟩,⟨e3,l3⟩⟩:=h;have hb:Below w1.drew.heap.size w1.drew (w1.drew.alloc (.cells #[.slice g.A N g.c] 41)):=(Below.refl _ _).alloc (Nat.le_refl _) _;obtain ⟨hc,-⟩:=bcell hb;have hz:=hb.size;exact ⟨⟨(hc _ _ l0).trans e0,by omega⟩,⟨(hc _ _ l1).trans e1,by omega⟩,⟨(hc _ _ l2).trans e2,by omega⟩,⟨(hc _ _ l3).trans e3,by omega⟩⟩
   refine hwO 10 fun K hK=>?_;go_simp;refine hK.out _ _ hSC2 (fun hHeld=>?_);clear hK K hHeld;refine fun _=>⟨by kernel_rfl,?_⟩
   simp only[List.drop_succ_cons,List.drop_zero];clear HSC HSd hSC1 hSC2;clear SC;go_upto_region 8 with (fail)
   obtain ⟨gk,hgk⟩:∃x,x=w1.heap.size:=⟨_,rfl⟩;obtain ⟨ga,hga⟩:∃x,x=w1.heap.size+1:=⟨_,rfl⟩;obtain ⟨gc,hgc⟩:∃x,x=w1.heap.size+1+1:=⟨_,rfl⟩;obtain ⟨go,hgo⟩:∃x,x=w1.heap.size+1+1+1:=⟨_,rfl⟩;rw[←hgo, ←hgc, ←hga, ←hgk];obtain ⟨w3,hw3⟩:∃w3,w3=((((w1.alloc (.cells #[.slice g.A N g.c] 41)).alloc (.cells (Array.replicate N (iv 0)) 3)).alloc (.cells #[.slice (some ⟨ga,0,none⟩) N N] 29)).alloc (.cells #[.func (.func 83) #[] #[.pointer (some ⟨gc,0,none⟩),.pointer (some ⟨gk,0,none⟩),.pointer (some ⟨gw,0,none⟩),.pointer (some ⟨gm,0,none⟩),.pointer (some ⟨gf,0,none⟩),.pointer (some ⟨go,0,none⟩)]] 100)).drew:=⟨_,rfl⟩;rw[←hw3];have hb4:=blk4 w1 #[.slice g.A N g.c] (Array.replicate N (iv 0)) #[.slice (some ⟨ga,0,none⟩) N N] #[.func (.func 83) #[] #[.pointer (some ⟨gc,0,none⟩),.pointer (some ⟨gk,0,none⟩),.pointer (some ⟨gw,0,none⟩),.pointer (some ⟨gm,0,none⟩),.pointer (some ⟨gf,0,none⟩),.pointer (some ⟨go,0,none⟩)]] 41 3 29 100;have hB13:Below w1.heap.size w1 w3:=by rw[hw3];exact below4 _ _ _ _ _
   rw[←hw3] at hb4;obtain ⟨k1,k2,k3,k4⟩:=hb4;have eI:Array.replicate N (iv 0)=((List.replicate N (0:Int)).map iv).toArray:=by simp
   rw[eI] at k2;have HG:=Hg.out;have hbk:=Hbk.out
   have hC3:CM w3 0 gc gk gw gm gf go ga bw bk g f N (List.replicate N 0):=by
    refine ⟨by rw[hgc];exact k3,by rw[hga];exact OwnI.of_blk k2 (by simp) (by omega),by rw[hgk, ←HN.out];exact k1,HBw.out.below hB13 (by omega),HBm.out.below hB13 (by omega),HBf.out.below hB13 (by omega),by rw[show w1.heap.size+3=go from hgo.symm] at k4;exact k4⟩
   have hO13:Only (fun _=>False) w1 w3:=Only.of_fresh hB13;have hQ3:CtQ w0 w3 p bw bk vx vm:=HQ1.out.only hO13 (fun _ _ h=>h) (fun h=>h);have hM3:KMap w3 bk K (kcL p.plain):=HM1.out.only hO13 (fun h=>h);have hbw:bw<w.heap.size:=HQ.out.blkW.lt;have h0w:=HQ.out.below.size
   have hsep:CSep w0 gc gk gw gm gf go ga bw bk:=by
    constructor<;>omega
   have hO3:Only (fun x=>x=bk) w w3:=HO1.out.trans (Only.of_fresh hB13);have h1:=cost1_any (b1:=0) hg Hn.out S hf Hgf.out hr HN.out hsep (fun G hG K2 w2 h1 h2 h3=>ih G K2 w2 (by have:=rk_lt hfl hG (S.acyc f hr);omega) (by rw[←Hn.out];have:=cg_lt hg hG;simpa [PrgM.plain] using this) (hr.trans (.one hG)) h1 h2 h3) (rk (nxF p.plain f) (p.plain.len f) 0+1) 0 (List.replicate N 0) K w3.drew (by omega) (.refl 0) (fun j x hx=> .inl (List.eq_of_mem_replicate (List.mem_of_getElem? hx))) (by simp) hKl (hQ3.only (Only.refl (fun _=>False) w3).drew (fun _ _ h=>h) (fun h=>h)) (hM3.heap rfl) ⟨hC3.cC,hC3.own,hC3.cK,hC3.cW,hC3.cM,hC3.cF,hC3.cO⟩
   have HK:=Lib.hid h1;have HC3:=Lib.hid hC3;have HO3:=Lib.hid hO3;have Hsep:=Lib.hid hsep;have HgaW:=Lib.hid (show w.heap.size≤ga by omega)
   have cm3:w3.cell? ⟨gm,0,none⟩=some (.map (some bk)):=hC3.cM.cell 0;have cf3:w3.cell? ⟨gf,0,none⟩=some (.int .i64 (f:Int)):=hC3.cF.cell 0;have co3:w3.cell? ⟨go,0,none⟩=some (.func (.func 83) #[] #[.pointer (some ⟨gc,0,none⟩),.pointer (some ⟨gk,0,none⟩),.pointer (some ⟨gw,0,none⟩),.pointer (some ⟨gm,0,none⟩),.pointer (some ⟨gf,0,none⟩),.pointer (some ⟨go,0,none⟩)]):=hC3.cO.cell 0;have lm3:=hC3.cM.lt;have lf3:=hC3.cF.lt;have lo3:=hC3.cO.lt;clear HG hbk h0w hbw k1 k2 k3 k4 eI h1 hC3 hO3 hsep hQ3 hM3 hO13 hB13 hw3 hgk hga hgc hgo hmkI cw cf cm lw1 lf1 lm1 q3 y2 wl1 hb hlk;obtain ⟨SC,hSCd⟩:∃S:World→Prop,S=fun w'=>(w'.cell? ⟨gm,0,none⟩=some (.map (some bk))∧gm<w'.heap.size)∧(w'.cell? ⟨gf,0,none⟩=some (.int .i64 (f:Int))∧gf<w'.heap.size)∧(w'.cell? ⟨go,0,none⟩=some (.func (.func 83) #[] #[.pointer (some ⟨gc,0,none⟩),.pointer (some ⟨gk,0,none⟩),.pointer (some ⟨gw,0,none⟩),.pointer (some ⟨gm,0,none⟩),.pointer (some ⟨gf,0,none⟩),.pointer (some ⟨go,0,none⟩)])∧go<w'.heap.size):=⟨_,rfl⟩;have hSC:SC w3.drew:=by rw[hSCd];exact ⟨⟨cm3,lm3⟩,⟨cf3,lf3⟩,⟨co3,lo3⟩⟩
   have HSC:=Lib.hid (show SC w3.drew from hSC)
   have HSd:=Lib.hid hSCd;clear hSC hSCd;refine region_heldT 5 SC (by kernel_rfl) (by decide) ?_
   refine hwA 0 (.map (some bk)) HSC.out ?_;simp only[Act.put,List.setIfInBounds_toArray];refine hwA 1 (.int .i64 (f:Int)) HSC.out ?_;simp only[Act.put];refine hwA 2 (.func (.func 83) #[] #[.pointer (some ⟨gc,0,none⟩),.pointer (some ⟨gk,0,none⟩),.pointer (some ⟨gw,0,none⟩),.pointer (some ⟨gm,0,none⟩),.pointer (some ⟨gf,0,none⟩),.pointer (some ⟨go,0,none⟩)]) HSC.out ?_;simp only[Act.put];refine hwO 3 fun K hK=>?_;go_simp;refine HK.out.mono ?_;rintro e w4 ⟨rfl,D4,K4,hD4,hDl4,hI4,hM4,hC4,hO4⟩;have HI4:=Lib.hid hI4;have HM4:=Lib.hid hM4;have HO4:=Lib.hid hO4
   have hSC4:SC w4:=by
    rw[HSd.out];exact ⟨⟨hC4.cM.cell 0,hC4.cM.lt⟩,⟨hC4.cF.cell 0,hC4.cF.lt⟩,⟨hC4.cO.cell 0,hC4.cO.lt⟩⟩
   have HC4:=Lib.hid hC4;refine hK.out _ _ hSC4 (fun hHeld=>?_);clear hK K hHeld hI4 hM4 hO4 hD4 hDl4 hC4;have Hkc:=Lib.hid (show pcL p.plain f (kcL p.plain) 0=kcL p.plain f from (kc_eq S hg hr).symm)
   rw[Hkc.out];have hoff:=HI4.out.off Hv.out (S.acyc f hr);obtain ⟨w5,hup,hM5,hgr⟩:=HM4.out.store (v:=f) (by rw[HI4.out.len];omega) hoff (by omega)
   have hget:=hM5.get (v:=f) (by omega) (List.getElem?_set_self (by rw[HI4.out.len];omega))
   have hO5:Only (fun x=>x=bk) w4 w5:=Only.of_grown hgr fun q hq=>by injection hq with hq;exact hq.symm
   have hC5:=HC4.out.only Hsep.out hO5;have HC5:=Lib.hid hC5;have HO5:=Lib.hid (show Only (fun x=>x=bk) w w5 from ((HO3.out.drew.more HO4.out fun k hk e=>(e.elim (fun e=>e) fun e=>by have:=HgaW.out;omega)).trans hO5))
   have HM5:=Lib.hid hM5;have HKf:=Lib.hid (HI4.out.fin (f:=f) (by omega))
   obtain ⟨x,hx⟩:∃x,x=kcL p.plain f:=⟨_,rfl⟩;rw[←hx] at hup hget hcb ⊢;have Hx:=Lib.hid hx;clear hx hoff hgr hM5 hO5 hC5
   have hSC5:SC w5:=by
    rw[HSd.out];exact ⟨⟨HC5.out.cM.cell 0,HC5.out.cM.lt⟩,⟨HC5.out.cF.cell 0,HC5.out.cF.lt⟩,⟨HC5.out.cO.cell 0,HC5.out.cO.lt⟩⟩
   refine hwO 4 fun K hK=>?_;go_simp;refine hK.out _ _ hSC5 (fun hHeld=>?_);clear hK K hHeld;refine fun _=>⟨by kernel_rfl,?_⟩
   simp only[List.drop_succ_cons,List.drop_zero];clear HSC HSd hSC4 hSC5;clear SC;have cm5:w5.cell? ⟨gm,0,none⟩=some (.map (some bk)):=HC5.out.cM.cell 0;have cf5:w5.cell? ⟨gf,0,none⟩=some (.int .i64 (f:Int)):=HC5.out.cF.cell 0;have lm5:=HC5.out.cM.lt;have lf5:=HC5.out.cF.lt;clear cm3 cf3 co3 lm3 lf3 lo3 hup;go_wp2_with fail
   go_ret
   exact ⟨by rw[←Hx.out];try rfl,_,HKf.out,HM5.out,HO5.out⟩
end
section
open Go.RowKit
abbrev mapIS:TypeId:=81
def gDat (l:List Int):DM:=if l=[] then .nil else .slice (ChangeShapes.lits .i64 l) []
structure GMD (w:World) (bm base n:Nat) (L:Nat→List Int) (D:DM):Prop where
 own:w.ownsGroups Try.prog 3 base 3 .i64 bm n D
 map:Maps.IsMap D
 at_:∀f:Nat,f<4096→D.atKey (kl f) .nil=gDat (L f)
def GMap (w:World) (bm base n:Nat) (L:Nat→List Int):Prop:=∃D,GMD w bm base n L D
theorem zeroS (w:World):(zeroValue 29).run Try.prog w= .ok (.slice none 0 0) w:=by kernel_rfl
set_option maxRecDepth 100000
theorem lits_inj {k:IntKind}:∀{a b:List Int},ChangeShapes.lits (H:=Unit) k a=ChangeShapes.lits k b→a=b
 |[],[],_=>rfl
 |[],_::_,h=>by simp[ChangeShapes.lits] at h
 |_::_,[],h=>by simp[ChangeShapes.lits] at h
 |x::a,y::b,h=>by
  unfold ChangeShapes.lits at h;rw[List.map_cons,List.map_cons] at h;injection h with h1 h2
  injection h1 with h1
  injection h1 with h0 h1
  rw[h1,lits_inj (k:=k) (a:=a) (b:=b) h2]
theorem gDat_is {w:World} {base:Nat} {v:Value} {zs l:List Int} (ho:w.ownsInts base 3 .i64 v zs) (h:gDat l=rowDatum .i64 v zs):zs=l:=by
 unfold gDat at h;by_cases hl:l=[]
 ·rw[if_pos hl] at h;rcases ho.datum (H:=Unit) with ⟨-,h0⟩|h0
  ·rw[h0,hl]
  rw[h0] at h;cases h
 rw[if_neg hl] at h;rcases ho.datum (H:=Unit) with ⟨h0,-⟩|h0
 ·rw[h0] at h;cases h
 rw[h0] at h;injection h with h1
 exact (lits_inj h1).symm
theorem ownsInts_slice {w:World} {base:Nat} {v:Value} {zs:List Int} (ho:w.ownsInts base 3 .i64 v zs):∃A c,v= .slice A zs.length c∧OwnI w base A zs.length c zs:=by
 rcases ho.1.2 with ⟨rfl,h0⟩|⟨g,cap,cur,rfl,h⟩
 ·rw[h0];have:=List.length_eq_zero_iff.1 h0;subst this;exact ⟨none,0,rfl,Own.nil _ _ _ _⟩
 exact ⟨some ⟨g,0,none⟩,cap,rfl,⟨by simp,.inr ⟨g,cap,cur,rfl,h⟩⟩⟩
theorem GMap.made (w:World):GMap (w.alloc (.map #[] 0)) w.heap.size (w.heap.size+1) 0 (fun _=>[]):=
 ⟨_,World.ownsGroups_made w Try.prog 3 3 .i64,⟨_,rfl⟩,fun f _=>by unfold gDat;rw[if_pos rfl];rfl⟩
theorem GMap.look {w:World} {bm base n:Nat} {L:Nat→List Int} (h:GMap w bm base n L) (hn:n<maxLen) {f:Nat} (hf:f<4096):
  ∃A c,(∀w',w'.heap[bm]?=w.heap[bm]?→(Instr.lookup mapIS (.map (some bm)) (.int .i64 (f:Int)) false).run Try.prog w'= .ok (.slice A (L f).length c) w')∧OwnI w base A (L f).length c (L f)∧(L f).length≤n∧
   ∀(w1:World) (A':Option Addr) (c':Nat) (x:Int),w.grownBy w1 (A.map (·.block))→OwnI w1 base A' ((L f).length+1) c' (L f++[x])→(-9223372036854775808≤x∧x≤9223372036854775807)→
    (A'.map (·.block)=A.map (·.block)∨∃g,A'.map (·.block)=some g∧w.heap.size≤g)→
    ∃w2,(Instr.mapUpdate mapIS (.map (some bm)) (.int .i64 (f:Int)) (.slice A' ((L f).length+1) c')).run Try.prog w1= .ok () w2∧GMap w2 bm base (n+1) (fun g=>if g=f then L f++[x] else L g)∧w1.grownBy w2 (some bm):=by
 obtain ⟨D,h⟩:=h
 obtain ⟨v,zs,hrun,hat,hoi,hzl,hback⟩:=h.own.at keyedI Try.underlying81 (zeroS w) hn (keyI (nat64 hf))
 rw[h.at_ f hf] at hat
 have hz:=gDat_is hoi hat
 subst hz
 obtain ⟨A,c,rfl,hO⟩:=ownsInts_slice hoi
 refine ⟨A,c,fun w' e=>?_,hO,hzl,fun w1 A' c' x hg hO' hx hloc=>?_⟩
 ·obtain ⟨es,clock,hb,F,-⟩:=h.own;rcases Maps.fit_look false keyedI Try.underlying81 (zeroS w) hb F (keyI (nat64 hf)) with ⟨h1,h2,-⟩|⟨e0,y,h1,h2,h3,-⟩
  ·rcases Maps.fit_look false keyedI Try.underlying81 (zeroS w') (e.trans hb) F (keyI (nat64 hf)) with ⟨k1,-⟩|⟨e0,y,k1,k2,-⟩
   ·rw[hrun] at h1;injection h1 with h1
    rw[k1,h1]
   exact absurd k2 (h2 e0 k1)
  rcases Maps.fit_look false keyedI Try.underlying81 (zeroS w') (e.trans hb) F (keyI (nat64 hf)) with ⟨-,k2,-⟩|⟨e1,y1,k1,k2,k3,-⟩
  ·exact absurd h2 (k2 e0 h1)
  have e01:e0=e1:=entry_eq_of_key ((MapKept.stamped_iff es clock).1 F.stamped).2.2 h1 k1 (h2.trans k2.symm);subst e01;rw[hrun] at h3;injection h3 with h3
  rw[k3,h3]
 ·have hown':w1.ownsInts base 3 .i64 (.slice A' ((L f).length+1) c') (L f++[x]):=by
   refine ⟨by rw[List.length_append];exact hO',fun z hz=>?_⟩
   rcases List.mem_append.1 hz with hz|hz
   ·exact hoi.2 z hz
   rw[List.mem_singleton.1 hz];exact wfI hx
  obtain ⟨w2,hrun2,hown2,hg2⟩:=hback w1 _ _ (by cases A<;>exact hg) hown' (by rw[List.length_append];simp;omega) (by cases A<;>cases A'<;>exact hloc)
  refine ⟨w2,hrun2,⟨_,hown2,?_,fun u hu=>?_⟩,hg2⟩
  ·obtain ⟨es,rfl⟩:=h.map;exact ⟨_,rfl⟩
  by_cases e:u=f
  ·subst e;rw[if_pos rfl,Maps.atKey_put_same h.map (klKey (nat64 hf))];rw[hown'.datum_pos (by simp)]
   unfold gDat;rw[if_neg (by simp)]
  rw[if_neg e,Maps.atKey_put_other (kl_ne (by omega)),h.at_ u hu]
theorem GMap.calls {w:World} {bm base n:Nat} {L:Nat→List Int} (h:GMap w bm base n L) (hn:n<maxLen) (hb:bm<base) (hlt:bm<w.heap.size):CallsAt bm w.heap.size w bm L:=by
 refine ⟨Nat.le_refl _,fun w' hs hz f hf=>?_⟩;obtain ⟨A,c,hrun,hO,-⟩:=h.look hn (f:=f) (by omega)
 refine ⟨A,c,hrun w' (hs bm (Nat.le_refl _) hlt),?_,fun b o e=>?_⟩
 ·refine RV.same (lo:=bm) (hi:=w.heap.size) (RV.of_own hO) (fun b o e=>?_) hs hz;have:=Own.row hO b (by rw[e];rfl)
  omega
 have:=Own.row hO b (by rw[e];rfl)
 omega
theorem GMap.kept {w w':World} {bm base n:Nat} {L:Nat→List Int} (h:GMap w bm base n L) {row:Option Nat} (hg:w.grownBy w' row) (hb:some bm≠row) (hr:∀j,row=some j→j<base):GMap w' bm base n L:=by
 obtain ⟨D,h⟩:=h;exact ⟨D,h.own.kept hg hb (h.own.rowsAbove hr),h.map,h.at_⟩
end
end Go.Proofs.Ytcmpmhlcfalbhaa
