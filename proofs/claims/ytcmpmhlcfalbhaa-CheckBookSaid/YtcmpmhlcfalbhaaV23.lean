import Derived.Test.YtcmpmhlcfalbhaaV17
import Derived.Test.YtcmpmhlcfalbhaaV20
import Derived.Test.YtcmpmhlcfalbhaaV22
import Derived.Test.YtcmpmhlcfalbhaaV14
namespace Go.Proofs.Ytcmpmhlcfalbhaa
open Go.RowKit
structure TopJ (P:Prg) (f:Nat) (h:List Int) (j:Nat) (t:Int):Prop where
 pos:0≤t
 le:∀i x,i<j→h[i]?=some x→x≠ -1→x≤t∧x-(takesL P f (i:Nat)).1+(takesL P f (i:Nat)).2≤t
 is:t=0∨∃i x,h[i]?=some x∧x≠ -1∧(t=x∨t=x-(takesL P f (i:Nat)).1+(takesL P f (i:Nat)).2)
theorem TopJ.skip {P:Prg} {f j:Nat} {h:List Int} {t:Int} (H:TopJ P f h j t) (hx:h[j]?=some (-1)):TopJ P f h (j+1) t:=
 ⟨H.pos,fun i x hi hx2 hn=>by
  rcases Nat.lt_succ_iff_lt_or_eq.1 hi with h1|h1
  ·exact H.le i x h1 hx2 hn
  subst h1;rw[hx] at hx2;injection hx2 with e;exact absurd e.symm hn,H.is⟩
theorem TopJ.take {P:Prg} {f j:Nat} {h:List Int} {t t' x:Int} (H:TopJ P f h j t) (hx:h[j]?=some x) (hn:x≠ -1) (h1:t≤t') (h2:x≤t') (h3:x-(takesL P f (j:Nat)).1+(takesL P f (j:Nat)).2≤t') (h4:t'=t∨t'=x∨t'=x-(takesL P f (j:Nat)).1+(takesL P f (j:Nat)).2):TopJ P f h (j+1) t':=
 ⟨by have:=H.pos;omega,fun i y hi hy hyn=>by
  rcases Nat.lt_succ_iff_lt_or_eq.1 hi with k|k
  ·have:=H.le i y k hy hyn;omega
  ·subst k;rw[hx] at hy;injection hy with e;subst e;exact ⟨h2,h3⟩,by
  rcases h4 with e|e
  ·rw[e];exact H.is
  exact .inr ⟨j,x,hx,hn,e⟩⟩
theorem TopJ.fin {P:Prg} {f:Nat} {h:List Int} {t:Int} (H:TopJ P f h h.length t):TopF P f h t:=
 ⟨H.pos,fun j x hx hn=>H.le j x (List.getElem?_eq_some_iff.1 hx).1 hx hn,H.is⟩
set_option maxRecDepth 100000 in
set_option maxHeartbeats 4000000 in
theorem refTop_any (p:PrgM) (f N c:Nat) (A:Option Addr) (h:List Int) (w:World) (hp:PrgAt w p) (hg:Good p.plain) (hF:HFin p.plain f h) (hR:RV w A (h.map iv)) (hl:h.length=N):
  Calls Try.prog 49 #[p.val,.int .i64 (f:Int),.slice A N c] w fun e w'=>(∃t,e= .returned (.int .i64 t)∧TopF p.plain f h t)∧Below w.heap.size w w':=by
 have hN1:N≤4096:=by rw[←hl,hF.len];exact good_len hg f
 obtain ⟨w1,hw1⟩:∃w1,w1=w.alloc (.cells #[.int .i64 p.mem,.slice p.AD p.data.length p.cD,.slice p.AF p.fs.length p.cF] 26):=⟨_,rfl⟩
 have hb1:Below w.heap.size w w1:=by rw[hw1];exact (Below.refl _ _).alloc (Nat.le_refl _) _
 have hX1:Blk w1 w.heap.size 26 #[.int .i64 p.mem,.slice p.AD p.data.length p.cD,.slice p.AF p.fs.length p.cF]:=by rw[hw1];exact Blk.new w _ _
 obtain ⟨gx,hgx⟩:∃g,g=w.heap.size:=⟨_,rfl⟩
 rw[←hgx] at hX1
 have HX:=Lib.hid hX1
 have HP:=Lib.hid (hp.below hb1)
 have HB1:=Lib.hid hb1
 have HR1:=Lib.hid (hR.below hb1)
 have Hw1:=Lib.hid hw1
 have Hgx:=Lib.hid hgx
 have HF:=Lib.hid hF
 have Hg:=Lib.hid hg
 have Hl:=Lib.hid hl
 clear hp hb1 hX1 hgx hw1 hR hF hg hl
 go_enter Try.func49,Try.ntmps49
 go_wp2_with fail
 rw[←Hw1.out, ←Hgx.out]
 go_loopw [7,8] (fun tv iv' wr=>∃(j:Nat) (t:Int),j≤N∧iv'= .int .i64 (j:Int)∧tv= .int .i64 t∧Hid (TopJ p.plain f h j t)∧Below w1.heap.size w1 wr) (fun _ i _=>N-(intOf i).toNat)
 case atStart=>exact ⟨0,0,Nat.zero_le _,rfl,rfl,Lib.hid ⟨Int.le_refl _,fun i x hi=>by omega,.inl rfl⟩,Below.refl _ _⟩
 case round=>
  rename World=>wr;obtain ⟨j,t,hj,rfl,rfl,HT,hB⟩:=hrel;have HB:=Lib.hid hB;by_cases hlt:j<N
  ·have g1:(j:Int)<(N:Int):=by omega
   obtain ⟨b,off,rfl,hb,hc⟩:=(HR1.out.below hB).at_ (by rw[List.length_map,Hl.out];omega)
   obtain ⟨x,hx⟩:∃x,h[j]?=some x:=⟨_,List.getElem?_eq_getElem (by rw[Hl.out];exact hlt)⟩
   have c0:wr.cell? ⟨b,off+j,none⟩=some (.int .i64 x):=hc j _ (by rw[List.getElem?_map,hx];rfl)
   have hxb:=HF.out.bnd j x hx;have Hx:=Lib.hid hx;clear hc hx;by_cases hx1:x= -1
   ·subst hx1;have HT2:=Lib.hid (HT.out.skip Hx.out);clear hB;go_wp2_with fail
    exact ⟨⟨j+1,t,by omega,by go_num,rfl,HT2,HB.out⟩,by simp[intOf];omega⟩
   have hx2:(x== -1)=false:=by simpa using hx1
   obtain ⟨i,hi⟩:=Prg.ins_ex (P:=p.plain) (f:=f) (n:=j) (by rw[←HF.out.len,Hl.out];exact hlt)
   have hfac:=ins_facts Hg.out.chk hi;have hX:=HX.out.below hB HX.out.lt;have x0:wr.cell? ⟨gx,0,none⟩=some (.int .i64 p.mem):=hX.cell 0;have x1:wr.cell? ⟨gx,1,none⟩=some (.slice p.AD p.data.length p.cD):=hX.cell 1;have x2:wr.cell? ⟨gx,2,none⟩=some (.slice p.AF p.fs.length p.cF):=hX.cell 2;have xl:=hX.lt;have Htk:=refTakes_any p f j wr (HP.out.below hB);rw[hfac.same] at Htk;have ht0:=hfac.t0;have ht1:=hfac.t1;have hg0:=hfac.g0;have hg1:=hfac.g1;obtain ⟨tk,gv,hT⟩:∃t g,takesL p.plain f j=(t,g):=⟨_,_,rfl⟩;rw[hT] at Htk ht0 ht1 hg0 hg1;dsimp only at ht0 ht1 hg0 hg1;have Htk2:=Lib.hid Htk;have HTk:=Lib.hid hT;clear hB hX hfac Htk hT;go_wp2_with fail
   refine Htk2.out.mono ?_;rintro e w2 ⟨rfl,hb2⟩;have c2:w2.cell? ⟨b,off+j,none⟩=some (.int .i64 x):=by rw[(bcell hb2).1 _ _ hb];exact c0
   have hbl:b<w2.heap.size:=by have:=hb2.size;omega
   have HB2:=Lib.hid (HB.out.trans (hb2.mono HB.out.size));have wr1:IntKind.i64.wrap (x-tk)=x-tk:=by rw[IntKind.wrap_i64];omega
   have wr2:IntKind.i64.wrap (x-tk+gv)=x-tk+gv:=by rw[IntKind.wrap_i64];omega
   clear Htk2 hb2 c0 x0 x1 x2 xl hb;obtain ⟨t',ht'⟩:∃t',t'=max (max t x) (x-tk+gv):=⟨_,rfl⟩;have HT2:=Lib.hid (show TopJ p.plain f h (j+1) t' from HT.out.take Hx.out hx1 (by omega) (by omega) (by rw[HTk.out];dsimp only;omega) (by rw[HTk.out];dsimp only;omega))
   have Ht':=Lib.hid ht';clear ht';by_cases k1:t<x
   ·by_cases k2:x<x-tk+gv
    ·have e:t'=x-tk+gv:=by have:=Ht'.out;omega
     have He:=Lib.hid e;clear e;go_wp2_with fail
     exact ⟨⟨j+1,t',by omega,by go_num,by rw[He.out],HT2,HB2.out⟩,by simp[intOf];omega⟩
    have e:t'=x:=by have:=Ht'.out;omega
    have He:=Lib.hid e;clear e;go_wp2_with fail
    exact ⟨⟨j+1,t',by omega,by go_num,by rw[He.out],HT2,HB2.out⟩,by simp[intOf];omega⟩
   by_cases k2:t<x-tk+gv
   ·have e:t'=x-tk+gv:=by have:=Ht'.out;omega
    have He:=Lib.hid e;clear e;go_wp2_with fail
    exact ⟨⟨j+1,t',by omega,by go_num,by rw[He.out],HT2,HB2.out⟩,by simp[intOf];omega⟩
   have e:t'=t:=by have:=Ht'.out;omega
   have He:=Lib.hid e;clear e;go_wp2_with fail
   exact ⟨⟨j+1,t',by omega,by go_num,by rw[He.out],HT2,HB2.out⟩,by simp[intOf];omega⟩
  obtain rfl:j=N:=by omega
  have HT2:=Lib.hid (show TopF p.plain f h t from (by have h1:=HT.out;rw[←Hl.out] at h1;exact h1.fin))
  clear hB;go_wp2_with fail
  go_ret
  exact ⟨⟨t,rfl,HT2.out⟩,HB1.out.trans (HB.out.mono HB1.out.size)⟩
def callsTo (P:Prg) (hs:List (List Int)) (f j:Nat):List Int:=(((List.range j).filter (isCall P hs f)).map (P.aOf f)).map fun (n:Nat)=>(n:Int)
theorem callsTo_yes {P:Prg} {hs:List (List Int)} {f j:Nat} (h:isCall P hs f j=true):callsTo P hs f (j+1)=callsTo P hs f j++[(P.aOf f j:Int)]:=by
 unfold callsTo;rw[List.range_succ,List.filter_append,List.map_append,List.map_append];simp[h]
theorem callsTo_no {P:Prg} {hs:List (List Int)} {f j:Nat} (h:isCall P hs f j=false):callsTo P hs f (j+1)=callsTo P hs f j:=by
 unfold callsTo;rw[List.range_succ,List.filter_append,List.map_append,List.map_append];simp[h]
theorem callsTo_len (P:Prg) (hs:List (List Int)) (f j:Nat):(callsTo P hs f j).length≤j:=by
 unfold callsTo;rw[List.length_map,List.length_map];exact Nat.le_trans (List.length_filter_le _ _) (by rw[List.length_range];exact Nat.le_refl _)
def callsR (P:Prg) (hs:List (List Int)) (f:Nat):List Int:=(cg P hs f).map fun (n:Nat)=>(n:Int)
set_option maxRecDepth 100000 in
set_option maxHeartbeats 4000000 in
theorem refCalls_any (p:PrgM) (hs:List (List Int)) (f N c:Nat) (A:Option Addr) (h:List Int) (w:World) (hp:PrgAt w p) (hg:Good p.plain) (hf:f<p.fs.length) (hh:hs.getD f []=h) (hF:HFin p.plain f h) (hR:RV w A (h.map iv)) (hl:h.length=N):
  Calls Try.prog 73 #[p.val,.int .i64 (f:Int),.slice A N c] w (IntsPost w (callsR p.plain hs f)):=by
 have hlN:p.plain.len f=N:=by rw[←hl,hF.len]
 have hN1:N≤4096:=by rw[←hlN];exact good_len hg f
 have hfl:p.fs.length≤2932031007402:=hp.flen
 obtain ⟨w1,hw1⟩:∃w1,w1=w.alloc (.cells #[.int .i64 p.mem,.slice p.AD p.data.length p.cD,.slice p.AF p.fs.length p.cF] 26):=⟨_,rfl⟩
 have hb1:Below w.heap.size w w1:=by rw[hw1];exact (Below.refl _ _).alloc (Nat.le_refl _) _
 have hX1:Blk w1 w.heap.size 26 #[.int .i64 p.mem,.slice p.AD p.data.length p.cD,.slice p.AF p.fs.length p.cF]:=by rw[hw1];exact Blk.new w _ _
 obtain ⟨gx,hgx⟩:∃g,g=w.heap.size:=⟨_,rfl⟩
 rw[←hgx] at hX1
 have HX:=Lib.hid hX1
 have HP:=Lib.hid (hp.below hb1)
 have HB1:=Lib.hid hb1
 have HR1:=Lib.hid (hR.below hb1)
 have Hw1:=Lib.hid hw1
 have Hgx:=Lib.hid hgx
 have HF:=Lib.hid hF
 have Hg:=Lib.hid hg
 have Hl:=Lib.hid hl
 have HlN:=Lib.hid hlN
 have Hh:=Lib.hid hh
 obtain ⟨gg,hgf⟩:∃g,p.fs[f]?=some g:=⟨_,List.getElem?_eq_getElem hf⟩
 have hcl:gg.code.length=N:=by rw[←hlN];exact (PrgM.len_plain hgf).symm
 have Hgf:=Lib.hid hgf
 have Hcl:=Lib.hid hcl
 clear hp hb1 hX1 hgx hw1 hR hF hg hl hlN hh hgf hcl
 go_enter Try.func73,Try.ntmps73
 go_wp2_with fail
 rw[←Hw1.out, ←Hgx.out]
 go_loopw [7,8] (fun ov iv' wr=>∃(j:Nat) (A2:Option Addr) (T:List Int) (c2:Nat),j≤N∧iv'= .int .i64 (j:Int)∧ov= .slice A2 T.length c2∧OwnI wr w1.heap.size A2 T.length c2 T∧Hid (T=callsTo p.plain hs f j)∧Below w1.heap.size w1 wr) (fun _ i _=>N-(intOf i).toNat)
 case atStart=>exact ⟨0,none,[],0,Nat.zero_le _,rfl,rfl,Own.nil _ _ _ _,Lib.hid rfl,Below.refl _ _⟩
 case round=>
  rename World=>wr;obtain ⟨j,A2,T,c2,hj,rfl,rfl,hT,HT,hB⟩:=hrel;have HB:=Lib.hid hB;have HO:=Lib.hid hT;by_cases hlt:j<N
  ·have g1:(j:Int)<(N:Int):=by omega
   obtain ⟨b,off,rfl,hb,hc⟩:=(HR1.out.below hB).at_ (by rw[List.length_map,Hl.out];omega)
   obtain ⟨x,hx⟩:∃x,h[j]?=some x:=⟨_,List.getElem?_eq_getElem (by rw[Hl.out];exact hlt)⟩
   have c0:wr.cell? ⟨b,off+j,none⟩=some (.int .i64 x):=hc j _ (by rw[List.getElem?_map,hx];rfl)
   have hxb:=HF.out.bnd j x hx;have hht:htAt hs f j=x:=by unfold htAt;rw[Hh.out,List.getD_eq_getElem?_getD,hx];rfl
   obtain ⟨i,hi⟩:∃i,gg.code[j]?=some i:=⟨_,List.getElem?_eq_getElem (by rw[Hcl.out];exact hlt)⟩
   have hins:p.plain.ins f j=some i:=by rw[PrgM.ins_plain,Hgf.out,Option.bind_some,hi]
   have hic:isCall p.plain hs f j=(decide (i.op=17)&&decide (0≤x)):=by unfold isCall;rw[hins];dsimp only;rw[hht]
   have hTl:T.length≤j:=by rw[HT.out];exact callsTo_len _ _ _ _
   obtain ⟨bf,off3,hA,hbf,q0,q1,q2,q3,hFn,hFl⟩:=(HP.out.below hB).fn Hgf.out;obtain ⟨b1,off1,hA1,hb1,i0,i1,-,-⟩:=hFn.ins hi;have hX:=HX.out.below hB HX.out.lt;have x2:wr.cell? ⟨gx,2,none⟩=some (.slice (some ⟨bf,off3,none⟩) p.fs.length p.cF):=by rw[←hA];exact hX.cell 2
   have xl:=hX.lt;have gf:(f:Int)<(p.fs.length:Int):=by omega
   rw[hA1,Hcl.out] at q3;obtain ⟨wa,hwa⟩:∃w',w'=wr.alloc (.cells #[.int .i64 i.op,.int .i64 i.a] 45):=⟨_,rfl⟩;obtain ⟨gi,hgi⟩:∃g,g=wr.heap.size:=⟨_,rfl⟩;have hba:Below wr.heap.size wr wa:=by rw[hwa];exact (Below.refl _ _).alloc (Nat.le_refl _) _
   have hIa:Blk wa gi 45 #[.int .i64 i.op,.int .i64 i.a]:=by rw[hwa,hgi];exact Blk.new _ _ _
   have Hwa:=Lib.hid hwa;have Hgi:=Lib.hid hgi;have HIa:=Lib.hid hIa;have Hic:=Lib.hid hic;have Hins:=Lib.hid hins;have HBa:=Lib.hid (HB.out.trans (hba.mono HB.out.size));have HOa:=Lib.hid (show OwnI wa w1.heap.size A2 T.length c2 T from Own.below hT hba (Nat.le_refl _))
   have ca:wa.cell? ⟨b,off+j,none⟩=some (.int .i64 x):=by rw[(bcell hba).1 _ _ hb];exact c0
   have hbl:b<wa.heap.size:=by have:=hba.size;omega
   have hm0:IntKind.i64.wrap ((j:Int)+1)=(j:Int)+1:=by rw[IntKind.wrap_i64];omega
   obtain ⟨gkc,hgkc⟩:∃m,m=gg.c:=⟨_,rfl⟩;rw[←hgkc] at q3;clear hgkc hc hx hht hi hins hic hA hFn hA1 hX hwa hgi hba hIa hB hT q0 q1 q2;obtain ⟨op,a⟩:=i;dsimp only at i0 i1;go_upto_region 6 with (fail)
   rw[←Hwa.out, ←Hgi.out];clear Hwa Hgi i0 i1 hb1 q3 hbf x2 xl c0 hb;have k0:wa.cell? ⟨gi,0,none⟩=some (.int .i64 op):=HIa.out.cell 0;have k1:wa.cell? ⟨gi,1,none⟩=some (.int .i64 a):=HIa.out.cell 1;have kl:=HIa.out.lt;by_cases h17:op=17
   ·subst h17;by_cases hx1:x= -1
    ·subst hx1;have hx2:((-1:Int)== -1)=true:=rfl;have HT2:=Lib.hid (show T=callsTo p.plain hs f (j+1) from by rw[callsTo_no (by rw[Hic.out];simp)];exact HT.out)
     clear hx2;go_wp2_with fail
     exact ⟨⟨j+1,A2,T,c2,by omega,by go_num,rfl,HOa.out,HT2,HBa.out⟩,by simp[intOf];omega⟩
    have hx2:(x== -1)=false:=by simpa using hx1
    have hx3:(x != -1)=true:=by simpa using hx1
    have hic2:isCall p.plain hs f j=true:=by rw[Hic.out];simp;omega
    obtain ⟨i',hi',-,hia,-,-⟩:=good_call Hg.out (List.mem_filter.2 ⟨List.mem_range.2 (by rw[HlN.out];exact hlt),hic2⟩)
    rw[Hins.out] at hi';injection hi' with hi'
    subst hi';dsimp only at hia;have HT2:=Lib.hid (show T++[a]=callsTo p.plain hs f (j+1) from by rw[callsTo_yes hic2, ←HT.out,hia])
    have hz1:=HBa.out.size;clear hic2 hia;go_wp2_with (refine wpList_at 39 rfl ?_;refine wp_stop ?_)
    try refine ⟨?_⟩
    refine wpList_push1 rfl (.tmp 35) (.tmp 38) eInt rfl rfl HOa.out rfl rfl (by unfold maxLen;omega) (by omega) (by omega) ?_
    intro A6 c6 w6 hown6 hO6;have HO6:=Lib.hid (show OwnI w6 w1.heap.size A6 (T++[a]).length c6 (T++[a]) from OwnI.push hown6)
    have HB6:=Lib.hid (HBa.out.trans (hO6.below (by omega) (fun q hq e=>by have:=(Own.row HOa.out q e).1;omega)))
    clear hown6 hO6;go_wp2_with fail
    exact ⟨⟨j+1,A6,T++[a],c6,by omega,by go_num,by rw[List.length_append];rfl,HO6.out,HT2,HB6.out⟩,by simp[intOf];omega⟩
   have h17b:(op==17)=false:=by simpa using h17
   have HT2:=Lib.hid (show T=callsTo p.plain hs f (j+1) from by rw[callsTo_no (by rw[Hic.out];simp[h17])];exact HT.out)
   go_wp2_with fail
   exact ⟨⟨j+1,A2,T,c2,by omega,by go_num,rfl,HOa.out,HT2,HBa.out⟩,by simp[intOf];omega⟩
  obtain rfl:j=N:=by omega
  have hTR:T=callsR p.plain hs f:=by rw[HT.out];unfold callsTo callsR cg callsN;rw[HlN.out]
  have HTR:=Lib.hid hTR;clear hB hT hTR;go_wp2_with fail
  go_ret
  rw[←HTR.out];exact ⟨A2,c2,rfl,HO.out.mono HB1.out.size,HB1.out.trans (HB.out.mono HB1.out.size)⟩
end Go.Proofs.Ytcmpmhlcfalbhaa
