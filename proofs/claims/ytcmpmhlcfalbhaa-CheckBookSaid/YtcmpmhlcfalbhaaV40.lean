import Derived.Test.YtcmpmhlcfalbhaaV37
import Derived.Test.YtcmpmhlcfalbhaaV31
namespace Go.Proofs.Ytcmpmhlcfalbhaa
open Go.RowKit
theorem vrow_info:(Try.prog.info? 30).map (fun i=>(i.zero,i.size,i.bytes))=some (some (.slice none 0 0),1,24):=by kernel_rfl
theorem eVRow:Elem Try.prog 70 30 1 24:=elem_of Try.underlying70 vrow_info rfl (by decide)
theorem bool_info4:(Try.prog.info? 4).map (fun i=>(i.zero,i.size,i.bytes))=some (some (.bool false),1,1):=by kernel_rfl
theorem eBool4:Elem Try.prog 30 4 1 1:=elem_of Try.underlying30 bool_info4 rfl (by decide)
def bE (t:Nat):Bool:=t % 2==0
def mkV (ps:List LG) (t:Nat):List Value:=List.replicate (nOf ps t) (.bool (bE t))
def tlV (t m:Nat):List Value:=List.replicate m (.bool (!bE t))
theorem bE_or (t:Nat):((t:Int).tmod 2=0∧bE t=true)∨((t:Int).tmod 2=1∧bE t=false):=by
 have e1:(t:Int).tmod 2=((t % 2:Nat):Int):=by
  rw[Int.tmod_eq_emod_of_nonneg (by omega)];exact (Int.natCast_emod _ _).symm
 rw[e1];unfold bE;rcases Nat.mod_two_eq_zero_or_one t with h|h
 ·exact .inl ⟨by rw[h];rfl,by rw[h];rfl⟩
 exact .inr ⟨by rw[h];rfl,by rw[h];rfl⟩
theorem mkV_len (ps:List LG) (t:Nat):(mkV ps t).length=nOf ps t:=by unfold mkV;rw[List.length_replicate]
theorem mkV_get (ps:List LG) (t k:Nat) (hk:k<nOf ps t):(mkV ps t)[k]?=some (.bool (bE t)):=by
 unfold mkV;rw[List.getElem?_replicate,if_pos hk]
theorem tlV_get (t m k:Nat) (hk:k<m):(tlV t m)[k]?=some (.bool (!bE t)):=by
 unfold tlV;rw[List.getElem?_replicate,if_pos hk]
theorem tlV_next (t m:Nat):tlV t m++[.bool (!bE t)]=tlV t (m+1):=by
 unfold tlV;rw[List.replicate_succ']
set_option maxRecDepth 100000 in
set_option maxHeartbeats 4000000 in
theorem grownBools_any (L:Option Addr) (cL base:Nat) (ps:List LG) (vs:Nat→List Value) (w:World) (h:ListsH w base 4 1 L ps vs) (hbase:base≤w.heap.size):
  Calls Try.prog 34 #[.slice L ps.length cL] w fun e w'=>e= .returned (.bool true)∧Only (fun b=>∃p∈ps,p.A.map (·.block)=some b) w w':=by
 have H:=Lib.hid h
 obtain ⟨N,hN⟩:∃N,N=ps.length:=⟨_,rfl⟩
 have hN64:N≤1000:=by have:=h.many;omega
 rw[←hN]
 have HN:=Lib.hid hN
 have Hlen:=Lib.hid (show ∀t p,ps[t]?=some p→(mkV ps t).length=(vs t).length from fun t p hp=>by rw[mkV_len,nOf_eq hp,(h.own t p hp).1];omega)
 have HF0:=Lib.hid (h.full (mk:=mkV ps))
 clear h hN
 go_enter Try.func34,Try.ntmps34
 go_wp2_with fail
 go_loopw [3] (fun v wr=>∃k:Nat,k≤N∧v= .int .i64 k∧FullG wr base 4 1 ps (mkV ps) vs k 0∧Only (fun b=>∃p∈ps,p.A.map (·.block)=some b) w wr) (fun v _=>N-(intOf v).toNat)
 case atStart=>exact ⟨0,Nat.zero_le _,rfl,HF0.out,Only.refl _ _⟩
 case round=>
  rename World=>w1;obtain ⟨k,hk,rfl,hF,hO⟩:=hrel;have hL1:RV w1 L (ps.map LG.val):=H.out.rv2 hO;by_cases hlt:k<N
  ·have g1:(k:Int)<(N:Int):=by omega
   have hkl:k<ps.length:=by have:=HN.out;omega
   obtain ⟨p,hp⟩:∃p,ps[k]?=some p:=⟨_,List.getElem?_eq_getElem hkl⟩;obtain ⟨bL,oL,rfl,hbL,hcL⟩:=hL1.at_ (by rw[List.length_map];omega)
   have hh:=hcL k _ (vals_get hp);have hpn:p.n≤1000000:=H.out.small p (List.mem_of_getElem? hp);have Hp:=Lib.hid hp;have HF:=Lib.hid hF;have HO:=Lib.hid hO;obtain ⟨pA,pn,pc⟩:=p;clear hp hF hO hL1 hcL;dsimp only[LG.val] at hh hpn;go_wp2_with fail
   clear hh;go_loopw [4] (fun v wr=>∃j:Nat,j≤pn∧v= .int .i64 j∧FullG wr base 4 1 ps (mkV ps) vs k j∧Only (fun b=>∃p∈ps,p.A.map (·.block)=some b) w wr) (fun v _=>pn-(intOf v).toNat)
   case atStart=>exact ⟨0,Nat.zero_le _,rfl,HF.out,HO.out⟩
   rename World=>w2;obtain ⟨j,hj,rfl,hF,hO⟩:=hrel;obtain ⟨bL',oL',e,hbL2,hcL⟩:=(H.out.rv2 hO).at_ (by rw[List.length_map];omega)
   injection e with e
   injection e with e1 e2
   subst e1 e2;have hh:=hcL k _ (vals_get Hp.out);dsimp only[LG.val] at hh;clear hcL;by_cases hjn:j<pn
   ·have g2:(j:Int)<(pn:Int):=by omega
    have ho:=hF.own k _ Hp.out;rw[if_neg (Nat.lt_irrefl _),if_pos rfl] at ho;obtain ⟨g,hA,hg1,hg2⟩:=ownG_some ho (by dsimp only;omega)
    dsimp only at hA;subst hA;have hl:=Hlen.out k _ Hp.out;have hml:=mkV_len ps k;rw[nOf_eq Hp.out] at hml;dsimp only at hml;have hfl:=fillC_len (mkV ps k) (vs k) j hl (by omega)
    obtain ⟨c0,f0,-⟩:=ownG_at ho j (by omega)
    generalize (fillC (mkV ps k) (vs k) j)[j]=z0 at*
    have m0:=mkV_get ps k j (by rw[nOf_eq Hp.out];exact hjn)
    have HF1:=Lib.hid (hF.put H.out.sole Hp.out g rfl hl _ m0);have HO2:=Lib.hid (hO.setCell (p:=⟨g,j,none⟩) (.inl ⟨_,List.mem_of_getElem? Hp.out,rfl⟩) (.bool (bE k)));clear ho hl hml hfl m0 hF hO;rcases bE_or k with ⟨r0,r1⟩|⟨r0,r1⟩
    ·rw[r1] at HF1 HO2;clear r1;go_wp2_with fail
     exact ⟨⟨j+1,by omega,by go_num,HF1.out,HO2.out⟩,by simp[intOf];omega⟩
    rw[r1] at HF1 HO2;clear r1;go_wp2_with fail
    exact ⟨⟨j+1,by omega,by go_num,HF1.out,HO2.out⟩,by simp[intOf];omega⟩
   obtain rfl:j=pn:=by omega
   have hvl:=(H.out.own k _ Hp.out).1;dsimp only at hvl;rw[show j=(vs k).length by omega] at hF
   have HFn:=Lib.hid (hF.next (Hlen.out k _ Hp.out))
   have HO2:=Lib.hid hO;clear hF hO hvl;go_wp2_with fail
   exact ⟨⟨k+1,by omega,by go_num,HFn.out,HO2.out⟩,by simp[intOf];omega⟩
  obtain rfl:k=N:=by omega
  have hown:∀t p,ps[t]?=some p→Own w1 base 4 1 p.A p.n p.c (mkV ps t):=fun t p hp=>by
   have h1:=hF.own t p hp;rw[if_pos (by have:=(List.getElem?_eq_some_iff.1 hp).1;have:=HN.out;omega)] at h1
   exact h1
  have HT0:=Lib.hid (TailG.start (e:=4) (rowT:=30) (tl:=fun t=>tlV t 20) (K:=20) hown rfl);have Hlt:=Lib.hid (show ∀p∈ps,∀b,p.A.map (·.block)=some b→b<w1.heap.size from fun p hp b e=>by have:=(H.out.row p hp b e).2.2;have:=hO.size;omega)
  have Hform:=Lib.hid (show ∀p∈ps,∀b,p.A.map (·.block)=some b→p.A=some ⟨b,0,none⟩ from fun p hp b e=>(H.out.row p hp b e).1)
  have HO:=Lib.hid hO;have hbs:base≤w1.heap.size:=by have:=hO.size;omega
  clear hown hF hO hL1;go_wp2_with fail
  go_loopw [5,6] (fun u v wr=>∃(i:Nat) (GA:Nat→Option Addr) (GC:Nat→Nat) (AM:Option Addr) (cM:Nat),i≤k∧v= .int .i64 i∧u= .slice AM i cM∧TailG w1 wr w1.heap.size base 4 30 1 ps (mkV ps) (fun t=>tlV t 20) 20 i GA GC AM cM) (fun _ v _=>k-(intOf v).toNat)
  case atStart=>exact ⟨0,_,_,_,_,Nat.zero_le _,rfl,rfl,HT0.out⟩
  rename World=>w2;clear HT0;obtain ⟨i,GA,GC,AM,cM,hi,rfl,rfl,hT⟩:=hrel;by_cases hik:i<k
  ·have g1:(i:Int)<(k:Int):=by omega
   have hil:i<ps.length:=by have:=HN.out;omega
   obtain ⟨p,hp⟩:∃p,ps[i]?=some p:=⟨_,List.getElem?_eq_getElem hil⟩;obtain ⟨bL,oL,hLe,hbL,hcL⟩:=(H.out.rv2 (HO.out.trans hT.only)).at_ (by rw[List.length_map];omega)
   subst hLe;have hh:=hcL i _ (vals_get hp);have hpn:p.n≤1000000:=H.out.small p (List.mem_of_getElem? hp);have HM0:=Lib.hid (MidG.start hT hp Hlt.out H.out.sole);have Hp:=Lib.hid hp;obtain ⟨pA,pn,pc⟩:=p;clear hp hT hcL;dsimp only[LG.val] at hh hpn;go_wp2_with fail
   clear hh;go_loopw [7,8] (fun u v wr=>∃(m:Nat) (G:Option Addr) (C:Nat),m≤20∧v= .int .i64 m∧u= .slice G (pn+m) C∧MidG w1 wr w1.heap.size base 4 30 1 ps (mkV ps) (fun t=>tlV t 20) 20 i GA GC AM cM ⟨pA,pn,pc⟩ m (tlV i m) G C) (fun _ v _=>20-(intOf v).toNat)
   case atStart=>exact ⟨0,_,_,Nat.zero_le _,rfl,rfl,HM0.out⟩
   rename World=>w3;clear HM0;obtain ⟨m,G,C,hm,rfl,rfl,hM⟩:=hrel;by_cases hm40:m<20
   ·have g2:(m:Int)<20:=by omega
    rcases bE_or i with ⟨r0,r1⟩|⟨r0,r1⟩
    ·obtain ⟨w4,hw4⟩:∃w',w'=w3.alloc (.cells #[.bool false] 4):=⟨_,rfl⟩;have hb34:Below w3.heap.size w3 w4:=by rw[hw4];exact (Below.refl _ _).alloc (Nat.le_refl _) _
     have hU:Blk w4 w3.heap.size 4 #[.bool false]:=by rw[hw4];exact Blk.new _ _ _
     have Hcur:=Lib.hid (show Own w4 base 4 1 G (pn+m) C (mkV ps i++tlV i m) from Own.below hM.cur hb34 (Nat.le_refl _))
     have HM:=Lib.hid hM;have Hb34:=Lib.hid hb34;have HU:=Lib.hid hU;have Hw4:=Lib.hid hw4;have hbs4:base≤w4.heap.size:=by have:=hM.size;have:=hb34.size;omega
     clear hM hb34 hU hw4;go_wp2_with (refine wpList_at 55 rfl ?_;refine wp_stop ?_)
     try refine ⟨?_⟩
     rw[←Hw4.out];refine wpList_app2 rfl (.tmp 50) (.tmp 54) eBool4 rfl rfl Hcur.out (m:=1) (c':=1) (us:=[.bool false]) rfl (RV.of_blk HU.out) rfl (by intro v hv;simp only[List.mem_cons,List.not_mem_nil,or_false] at hv;subst hv;rfl) (by decide) (by unfold maxLen;omega) (by omega) hbs4 ?_
     intro A6 c6 w6 hown6 hA6;have HMn:=Lib.hid (HM.out.step Hp.out (by decide) Hlt.out (Nat.le_refl _) Hform.out H.out.sole Hb34.out hown6 hA6)
     clear hown6 hA6 HM HU Hb34 Hcur Hw4;go_wp2_with fail
     exact ⟨⟨m+1,_,_,by omega,by go_num,rfl,by rw[←tlV_next,r1];exact HMn.out⟩,by simp[intOf];omega⟩
    obtain ⟨w4,hw4⟩:∃w',w'=w3.alloc (.cells #[.bool true] 4):=⟨_,rfl⟩;have hb34:Below w3.heap.size w3 w4:=by rw[hw4];exact (Below.refl _ _).alloc (Nat.le_refl _) _
    have hU:Blk w4 w3.heap.size 4 #[.bool true]:=by rw[hw4];exact Blk.new _ _ _
    have Hcur:=Lib.hid (show Own w4 base 4 1 G (pn+m) C (mkV ps i++tlV i m) from Own.below hM.cur hb34 (Nat.le_refl _))
    have HM:=Lib.hid hM;have Hb34:=Lib.hid hb34;have HU:=Lib.hid hU;have Hw4:=Lib.hid hw4;have hbs4:base≤w4.heap.size:=by have:=hM.size;have:=hb34.size;omega
    clear hM hb34 hU hw4;go_wp2_with (refine wpList_at 55 rfl ?_;refine wp_stop ?_)
    try refine ⟨?_⟩
    rw[←Hw4.out];refine wpList_app2 rfl (.tmp 50) (.tmp 54) eBool4 rfl rfl Hcur.out (m:=1) (c':=1) (us:=[.bool true]) rfl (RV.of_blk HU.out) rfl (by intro v hv;simp only[List.mem_cons,List.not_mem_nil,or_false] at hv;subst hv;rfl) (by decide) (by unfold maxLen;omega) (by omega) hbs4 ?_
    intro A6 c6 w6 hown6 hA6;have HMn:=Lib.hid (HM.out.step Hp.out (by decide) Hlt.out (Nat.le_refl _) Hform.out H.out.sole Hb34.out hown6 hA6)
    clear hown6 hA6 HM HU Hb34 Hcur Hw4;go_wp2_with fail
    exact ⟨⟨m+1,_,_,by omega,by go_num,rfl,by rw[←tlV_next,r1];exact HMn.out⟩,by simp[intOf];omega⟩
   obtain rfl:m=20:=by omega
   obtain ⟨w4,hw4⟩:∃w',w'=w3.alloc (.cells #[.slice G (pn+20) C] 30):=⟨_,rfl⟩;have hb34:Below w3.heap.size w3 w4:=by rw[hw4];exact (Below.refl _ _).alloc (Nat.le_refl _) _
   have hU:Blk w4 w3.heap.size 30 #[.slice G (pn+20) C]:=by rw[hw4];exact Blk.new _ _ _
   have Hrow:=Lib.hid (Own.below hM.row hb34 (Nat.le_refl _));have HM:=Lib.hid hM;have Hb34:=Lib.hid hb34;have HU:=Lib.hid hU;have Hw4:=Lib.hid hw4;have hbs4:w1.heap.size≤w4.heap.size:=by have:=hM.size;have:=hb34.size;omega
   clear hM hb34 hU hw4;go_wp2_with (refine wpList_at 59 rfl ?_;refine wp_stop ?_)
   try refine ⟨?_⟩
   rw[←Hw4.out];refine wpList_app rfl (.tmp 56) (.tmp 58) eVRow rfl rfl Hrow.out (m:=1) (c':=1) (us:=[.slice G (pn+20) C]) rfl (RV.of_blk HU.out) rfl (by intro v hv;simp only[List.mem_cons,List.not_mem_nil,or_false] at hv;subst hv;rfl) (by unfold maxLen;omega) (by omega) hbs4 (by intro h;cases h) ?_
   intro A6 c6 w6 hown6 hg6 hA6;have HTn:=Lib.hid (HM.out.last Hp.out (by decide) Hlt.out (Nat.le_refl _) Hb34.out hown6 hg6)
   clear hown6 hg6 hA6 HM HU Hb34 Hrow Hw4;go_wp2_with fail
   exact ⟨⟨i+1,_,_,_,_,by omega,by go_num,rfl,HTn.out⟩,by simp[intOf];omega⟩
  have hik2:i=k:=by omega
  subst hik2;have HT:=Lib.hid hT;clear hT;go_wp2_with fail
  go_loopw [9] (fun v wr=>∃q:Nat,q≤i∧v= .int .i64 q∧Below w2.heap.size w2 wr) (fun v _=>i-(intOf v).toNat)
  case atStart=>exact ⟨0,Nat.zero_le _,rfl,Below.refl _ _⟩
  rename World=>w3;obtain ⟨q,hq,rfl,hB⟩:=hrel;by_cases hqi:q<i
  ·have g1:(q:Int)<(i:Int):=by omega
   have hil:q<ps.length:=by have:=HN.out;omega
   obtain ⟨p,hp⟩:∃p,ps[q]?=some p:=⟨_,List.getElem?_eq_getElem hil⟩;have hpn:p.n≤1000000:=H.out.small p (List.mem_of_getElem? hp);obtain ⟨bL,oL,hLe,hbL,hcL⟩:=(H.out.rv2 (HO.out.trans HT.out.only)).at_ (by rw[List.length_map];omega)
   subst hLe;have hh:=hcL q _ (vals_get hp);obtain ⟨gM,rfl,r0,rl0⟩:=rowT_at HT.out.row hp hqi;obtain ⟨hoi,hri,-⟩:=HT.out.done q p hqi hp;obtain ⟨gA,hgA,-,hgA2⟩:=ownG_some hoi (by omega)
   rw[hgA] at hoi r0;have hmkl:(mkV ps q).length=p.n:=by rw[mkV_len,nOf_eq hp]
   have Hmkl:=Lib.hid hmkl;have Hmk:=Lib.hid (show ∀j,j<p.n→(mkV ps q)[j]?=some (.bool (bE q)) from fun j hj=>mkV_get ps q j (by rw[nOf_eq hp];exact hj))
   have Hoi:=Lib.hid hoi;have Hri:=Lib.hid hri;have HB:=Lib.hid hB;obtain ⟨e1,-⟩:=bcell hB;have hh4:w3.cell? ⟨bL,oL+q,none⟩=some p.val:=by rw[e1 _ _ hbL];exact hh
   have Hh3:=Lib.hid hh;have Hr3:=Lib.hid r0;have hz4:=hB.size;obtain ⟨pA,pn,pc⟩:=p;dsimp only[LG.val] at hh4 hpn;try dsimp only at Hr3
   try dsimp only at Hoi
   try dsimp only at Hri
   clear hoi hri hp hB e1 hh r0 hcL hgA hmkl;have hlL:bL<w3.heap.size:=by omega
   have hlM:gM<w3.heap.size:=by omega
   go_wp2_with fail
   go_loopw [11] (fun v wr=>∃j:Nat,j≤pn+20∧v= .int .i64 j∧Below w2.heap.size w2 wr) (fun v _=>pn+20-(intOf v).toNat)
   case atStart=>exact ⟨0,Nat.zero_le _,rfl,HB.out⟩
   rename World=>w5;obtain ⟨j,hj,rfl,hB⟩:=hrel;obtain ⟨e1,-⟩:=bcell hB;have hz5:=hB.size;have hh5:w5.cell? ⟨bL,oL+q,none⟩=some (.slice pA pn pc):=by rw[e1 _ _ hbL];exact Hh3.out
   have r5:w5.cell? ⟨gM,q,none⟩=some (.slice (some ⟨gA,0,none⟩) (pn+20) (GC q)):=by rw[e1 _ _ rl0];exact Hr3.out
   have Hoi5:=Own.below Hoi.out hB (Nat.le_refl _);have Hri5:=Hri.out.below hB;have hlL5:bL<w5.heap.size:=by omega
   have hlM5:gM<w5.heap.size:=by omega
   have hgA5:gA<w5.heap.size:=by omega
   have HB5:=Lib.hid hB;by_cases hj1:j<pn
   ·have g5:(j:Int)<(pn:Int):=by omega
    have g6:(j:Int)<(pn:Int)+20:=by omega
    have m0:=Hmk.out j hj1
    have x0:w5.cell? ⟨gA,j,none⟩=some (.bool (bE q)):=by
     have h1:(mkV ps q++tlV q 20)[j]?=some (.bool (bE q)):=by rw[List.getElem?_append_left (by have:=Hmkl.out;omega)];exact m0
     obtain ⟨h2,h3⟩:=List.getElem?_eq_some_iff.1 h1;have h4:=(ownG_at Hoi5 j h2).1;rw[h3] at h4;exact h4
    obtain ⟨bp,op,hpA,hbp,hcp⟩:=Hri5.at_ (by have:=Hmkl.out;omega)
    have y0:=hcp _ _ m0;subst hpA;clear hcp m0 Hoi5 Hri5 e1 hB;rcases bE_or q with ⟨t0,t1⟩|⟨t0,t1⟩
    ·rw[t1] at x0 y0;clear t1;go_wp2_with fail
     exact ⟨⟨j+1,by omega,by go_num,HB5.out⟩,by simp[intOf];omega⟩
    rw[t1] at x0 y0;clear t1;go_wp2_with fail
    exact ⟨⟨j+1,by omega,by go_num,HB5.out⟩,by simp[intOf];omega⟩
   by_cases hj2:j<pn+20
   ·have g5:(pn:Int)≤(j:Int):=by omega
    have g6:(j:Int)<(pn:Int)+20:=by omega
    have m0:=tlV_get q 20 (j-pn) (by omega)
    have x0:w5.cell? ⟨gA,j,none⟩=some (.bool (!bE q)):=by
     have h1:(mkV ps q++tlV q 20)[j]?=some (.bool (!bE q)):=by
      have hml:=Hmkl.out;rw[List.getElem?_append_right (by omega),hml,m0]
     obtain ⟨h2,h3⟩:=List.getElem?_eq_some_iff.1 h1;have h4:=(ownG_at Hoi5 j h2).1;rw[h3] at h4;exact h4
    clear m0 Hoi5 Hri5 e1 hB;rcases bE_or q with ⟨t0,t1⟩|⟨t0,t1⟩
    ·rw[t1] at x0;clear t1;go_wp2_with fail
     exact ⟨⟨j+1,by omega,by go_num,HB5.out⟩,by simp[intOf];omega⟩
    rw[t1] at x0;clear t1;go_wp2_with fail
    exact ⟨⟨j+1,by omega,by go_num,HB5.out⟩,by simp[intOf];omega⟩
   have hj3:j=pn+20:=by omega
   subst hj3;clear Hoi5 Hri5 e1 hB;go_wp2_with fail
   exact ⟨⟨q+1,by omega,by go_num,HB5.out⟩,by simp[intOf];omega⟩
  have hqi2:q=i:=by omega
  subst hqi2;have HB:=Lib.hid hB;clear hB;go_wp2_with fail
  go_ret
  exact ⟨rfl,(HO.out.trans HT.out.only).trans (Only.of_fresh HB.out)⟩
end Go.Proofs.Ytcmpmhlcfalbhaa
