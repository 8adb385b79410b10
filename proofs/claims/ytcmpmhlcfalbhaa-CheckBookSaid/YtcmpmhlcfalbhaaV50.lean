import Derived.Test.YtcmpmhlcfalbhaaV11
import Derived.Test.YtcmpmhlcfalbhaaV49
namespace Go.Proofs.Ytcmpmhlcfalbhaa
open Go.RowKit
set_option maxRecDepth 100000 in
set_option maxHeartbeats 4000000 in
theorem refTwin_any (p:PrgM) (w:World) (hp:PrgAt w p):Calls Try.prog 35 #[p.val] w (TwinPost w p):=by
 obtain ⟨mem,AD,cD,data,AF,cF,fs⟩:=p;have Hp:=Lib.hid hp;have hdl:data.length≤140737488351232:=hp.dlen;have hfl:fs.length≤2932031007402:=hp.flen;clear hp;obtain ⟨n,hn⟩:∃n,n=data.length:=⟨_,rfl⟩;obtain ⟨m,hm⟩:∃m,m=fs.length:=⟨_,rfl⟩;have hpv:(⟨mem,AD,cD,data,AF,cF,fs⟩:PrgM).val= .agg #[.int .i64 mem,.slice AD n cD,.slice AF m cF]:=by dsimp only[PrgM.val];rw[←hn, ←hm]
 rw[hpv];have hdn:n≤140737488351232:=by omega
 have hfm:m≤2932031007402:=by omega
 have HN:=Lib.hid hn;have HM:=Lib.hid hm;clear hn hm hpv hdl hfl;obtain ⟨w1,hw1⟩:∃w1,w1=(w.alloc (.cells #[.int .i64 mem,.slice AD n cD,.slice AF m cF] 26)).alloc (.cells #[.int .i64 0,.slice none 0 0,.slice none 0 0] 26):=⟨_,rfl⟩;have hb1:Below w.heap.size w w1:=by rw[hw1];exact ((Below.refl _ _).alloc (Nat.le_refl _) _).alloc (by simp) _
 have hz1:w1.heap.size=w.heap.size+2:=by rw[hw1];simp
 have hX1:Blk w1 w.heap.size 26 #[.int .i64 mem,.slice AD n cD,.slice AF m cF]:=by rw[hw1];exact (Blk.new w _ _).alloc _
 have hR1:Blk w1 (w.heap.size+1) 26 #[.int .i64 0,.slice none 0 0,.slice none 0 0]:=by
  rw[hw1];have h:=Blk.new (w.alloc (.cells #[.int .i64 mem,.slice AD n cD,.slice AF m cF] 26)) 26 #[.int .i64 0,.slice none 0 0,.slice none 0 0];rw[World.size_alloc] at h;exact h
 obtain ⟨gx,hgx⟩:∃g,g=w.heap.size:=⟨_,rfl⟩;obtain ⟨gr,hgr⟩:∃g,g=w.heap.size+1:=⟨_,rfl⟩;rw[←hgx] at hX1;rw[←hgr] at hR1;have HG:=Lib.hid (show gx=w.heap.size∧gr=w.heap.size+1∧w1.heap.size=w.heap.size+2 from ⟨hgx,hgr,hz1⟩)
 have hxr:gx<gr:=by omega
 have hr1:gr<w1.heap.size:=by omega
 have HX1:=Lib.hid hX1;have HR1:=Lib.hid hR1;have Hb1:=Lib.hid hb1;have Hw1:=Lib.hid hw1;have hxl1:=hX1.lt;clear hw1 hb1 hX1 hR1 hgx hgr hz1;go_enter Try.func35,Try.ntmps35
 go_wp2_with fail
 rw[←HG.out.2.1, ←Hw1.out, ←HG.out.1];try simp only[Act.put]
 have Hs0:=Lib.hid (fun (w':World) (h:Below w1.heap.size w1 w')=>show w'.cell? ⟨gx,0,none⟩=some (.int .i64 mem) from (HX1.out.below h hxl1).cell 0)
 have Hs1:=Lib.hid (fun (w':World) (h:Below w1.heap.size w1 w')=>show w'.cell? ⟨gx,1,none⟩=some (.slice AD n cD) from (HX1.out.below h hxl1).cell 1)
 refine region_heldT 8 (fun w'=>Below w1.heap.size w1 w') (by kernel_rfl) (by decide) ?_
 have HSC:=Lib.hid (below_drewN (Below.refl w1.heap.size w1) 1);refine hwK 0 (.pointer (some ⟨gx,0,none⟩)) HSC.out ?_ (hy:=by intro w hSw;(try dsimp only at hSw);go_simp)
 simp only[Act.put,List.setIfInBounds_toArray];refine hwK 1 (.int .i64 mem) HSC.out ?_ (hy:=by intro w hSw;have q:=Hs0.out w hSw;(try dsimp only at hSw);go_simp)
 simp only[Act.put];refine hwK 3 (.pointer (some ⟨gx,1,none⟩)) HSC.out ?_ (hy:=by intro w hSw;(try dsimp only at hSw);go_simp)
 simp only[Act.put];refine hwK 4 (.slice AD n cD) HSC.out ?_ (hy:=by intro w hSw;have q:=Hs1.out w hSw;(try dsimp only at hSw);go_simp)
 simp only[Act.put];obtain ⟨u0,hu0⟩:∃u0,u0=w1.drew:=⟨_,rfl⟩;have HSu:=Lib.hid (show Below w1.heap.size w1 u0 from by rw[hu0];exact HSC.out)
 rw[←hu0];clear hu0 HSC;refine headW_two 2 7 rfl rfl (by decide) (by decide) (by kernel_rfl) (by kernel_rfl) (by kernel_rfl) (fun K hK=>?_) (fun K hK=>?_)
 ·go_simp;refine hK.out _ _ (HSu.out.alloc HSu.out.size _) (fun hHeld=>?_);clear hK K hHeld;obtain ⟨w2,hw2⟩:∃w2,w2=u0.alloc (.cells #[] 5):=⟨_,rfl⟩;rw[←hw2];have ho2:Own w2 u0.heap.size 5 1 (some ⟨u0.heap.size,0,none⟩) 0 0 []:=by rw[hw2];exact Own.lit u0 5 1 0 #[] (Nat.le_refl _) (Nat.zero_le _) rfl
  have HS2:=Lib.hid (show Below w1.heap.size w1 w2 from by rw[hw2];exact (HSu.out.alloc HSu.out.size _))
  have hzl:w2.heap.size=u0.heap.size+1:=by rw[hw2];simp
  have hzu:=HSu.out.size;clear hw2;refine headW_two 5 7 rfl rfl (by decide) (by decide) (by kernel_rfl) (by kernel_rfl) (by kernel_rfl) (fun K hK=>?_) (fun K hK=>?_)
  ·refine wp_app (.tmp 8) (.tmp 10) eByte rfl rfl ho2 (m:=n) (c':=cD) (us:=data.map bv) rfl ((Hp.out.below (Hb1.out.trans (HS2.out.mono Hb1.out.size))).data.rv) (by rw[List.length_map,HN.out,Nat.mul_one]) (map_bv_one _) (by unfold maxLen;omega) (by omega) (by omega) (fun e=>by have h:=Hp.out.data.nil e;rw[←HN.out] at h;exact h) ?_
   intro A3 c3 w3 hown3 hg3 hA3;rw[List.nil_append] at hown3;simp only[Nat.zero_add] at hown3 ⊢;have hb23:Below w1.heap.size w2 w3:=(Below.refl w1.heap.size w2).grown hg3 (by omega) fun q hq=>by injection hq with hq;rw[←hq];exact hzu
   have HS3:=Lib.hid (HS2.out.trans hb23);have HO3:=Lib.hid (hown3.mono hzu);have HR3':=Lib.hid (Own.row hown3);have hz3:=hg3.size;have hz13:=HS3.out.size;refine hK.out _ _ HS3.out (fun hHeld=>?_);clear hK K hHeld;refine hwK 6 (.agg #[.int .i64 mem,.slice A3 n c3,.slice none 0 0]) HS3.out ?_ (hy:=by intro w hSw;(try dsimp only at hSw);go_simp)
   simp only[Act.put];refine hwO 7 fun K hK=>?_;go_simp;refine hK.out _ _ (HS3.out.alloc HS3.out.size _) (fun hHeld=>?_);clear hK K hHeld;obtain ⟨v,hv⟩:∃v,v=w3.alloc (.cells #[.int .i64 0,.slice none 0 0,.slice none 0 0] 26):=⟨_,rfl⟩;obtain ⟨gq,hgq⟩:∃g,g=w3.heap.size:=⟨_,rfl⟩;rw[←hv, ←hgq];have hbz:Below w3.heap.size w3 v:=by rw[hv];exact (Below.refl _ _).alloc (Nat.le_refl _) _
   have hqz:Blk v gq 26 #[.int .i64 0,.slice none 0 0,.slice none 0 0]:=by rw[hv,hgq];exact Blk.new w3 _ _
   have hzz:v.heap.size=w3.heap.size+1:=by rw[hv];simp
   clear hv;have hvq:w1.heap.size≤gq:=by omega
   have HVb:=Lib.hid (HS3.out.trans (hbz.mono hz13));have HVq:=Lib.hid hqz;have HVo:=Lib.hid (Own.below HO3.out hbz (Nat.le_refl _));have HVn:=Lib.hid (fun (b:Nat) (e:A3.map (·.block)=some b)=>show b≠gq from by have:=(HR3'.out b e).2;omega)
   clear hbz hqz hzz hgq hown3 hg3 hA3 hb23 ho2 HS2 HO3 HR3' hzl hzu HSu hz3;refine fun _=>⟨by kernel_rfl,?_⟩
   have q0:v.cell? ⟨gq,0,none⟩=some (.int .i64 0):=HVq.out.cell 0;have q1:v.cell? ⟨gq,1,none⟩=some (.slice none 0 0):=HVq.out.cell 1;have q2:v.cell? ⟨gq,2,none⟩=some (.slice none 0 0):=HVq.out.cell 2;have qf0:=HVq.out.frozen 0;have qf1:=HVq.out.frozen 1;have qf2:=HVq.out.frozen 2;have hql:=HVq.out.lt;go_wp2_with (refine wpList_at 14 rfl ?_;refine wp_stop ?_)
   try refine ⟨?_⟩
   obtain ⟨w5,hw5⟩:∃w5,w5=((v.setCell ⟨gq,0,none⟩ (.int .i64 mem)).setCell ⟨gq,1,none⟩ (.slice A3 n c3)).setCell ⟨gq,2,none⟩ (.slice none 0 0):=⟨_,rfl⟩;rw[←hw5];have hO5:Only (fun b=>b=gq) v w5:=by rw[hw5];exact (((Only.refl (fun b=>b=gq) v).setCell (p:=⟨gq,0,none⟩) (.inl rfl) _).setCell (p:=⟨gq,1,none⟩) (.inl rfl) _).setCell (p:=⟨gq,2,none⟩) (.inl rfl) _
   have hQ5:Blk w5 gq 26 #[.int .i64 mem,.slice A3 n c3,.slice none 0 0]:=by rw[hw5];exact ((HVq.out.set_ 0 _).set_ 1 _).set_ 2 _
   have hz5:=hO5.size;have Hz5e:=Lib.hid (show w5.heap.size=v.heap.size from by rw[hw5];simp)
   have HX5:=Lib.hid ((HX1.out.below HVb.out hxl1).only hO5 (by omega))
   have HR5:=Lib.hid ((HR1.out.below HVb.out hr1).only hO5 (by omega))
   have HB5:=Lib.hid (Hb1.out.trans ((HVb.out.trans (hO5.below (B:=w1.heap.size) HVb.out.size (by intro k hk e;omega))).mono Hb1.out.size))
   have HD5:=Lib.hid (Own.only HVo.out hO5 fun b o e h=>HVn.out b (by rw[e];rfl) h)
   have HDr:=Lib.hid (Own.row HVo.out);have HQ5:=Lib.hid hQ5;clear hw5 hO5 hQ5 HVb HVq HVo q0 q1 q2 qf0 qf1 qf2 Hs0 Hs1 HX1 HR1;go_wp2_with fail
   go_loopw [4] (fun vv wr=>∃(k:Nat) (hs:List FunM) (AF':Option Addr) (cF':Nat),k≤m∧vv= .int .i64 k∧Blk wr gq 26 #[.int .i64 mem,.slice A3 n c3,.slice AF' k cF']∧Own wr v.heap.size 43 4 AF' k cF' (hs.flatMap funCells)∧MineR wr v.heap.size hs∧Only (fun b=>b=gq) w5 wr∧Hid (hs.length=k∧hs.map FunM.plain=(fs.take k).map FunM.plain)) (fun vv _=>m-(intOf vv).toNat)
   case atStart=>exact ⟨0,[],none,0,Nat.zero_le _,rfl,HQ5.out,Own.nil _ _ _ _,MineR.nil _ _,Only.refl _ _,Lib.hid ⟨rfl,rfl⟩⟩
   rename World=>u0;obtain ⟨k,hs,AF',cF',hk,rfl,hblk,hfun,hrow,hO,hsk⟩:=hrel;have hX:=HX5.out.only hO (by omega)
   have hz0:=hO.size;have x2:u0.cell? ⟨gx,2,none⟩=some (.slice AF m cF):=hX.cell 2;have hxl:=hX.lt;have hql0:=hblk.lt;have HB0:=Lib.hid (HB5.out.trans ((hO.below (B:=w.heap.size) HB5.out.size (by have:=HG.out;intro k hk e;omega)).mono (Nat.le_refl _)))
   have HX0:=Lib.hid hX;have HR0:=Lib.hid (HR5.out.only hO (by omega))
   have HD0:=Lib.hid (Own.only HD5.out hO fun b o e h=>HVn.out b (by rw[e];rfl) h)
   have HQ0:=Lib.hid hblk;have Hfun:=Lib.hid hfun;have Hrow:=Lib.hid hrow;have HO:=Lib.hid hO;clear hblk hfun hrow hO hX;by_cases hlt:k<m
   ·have g1:(k:Int)<(m:Int):=by omega
    obtain ⟨b,off,hA,hb,hc⟩:=(Hp.out.below HB0.out).rv.at_ (by rw[funCells_len];have:=HM.out;dsimp only;omega)
    dsimp only at hA;subst hA;have hkl:k<fs.length:=by have:=HM.out;omega
    obtain ⟨p0,p1,p2,p3⟩:=fun_cells hc k hkl;dsimp only at p0 p1 p2 p3;have hF:=Hp.out.funs _ (List.getElem_mem hkl);have Htk:=Lib.hid (show (fs.take (k+1)).map FunM.plain=(fs.take k).map FunM.plain++[fs[k].plain] from by rw[List.take_succ_eq_append_getElem hkl,List.map_append];rfl)
    generalize fs[k]=f at*
    obtain ⟨fa,fl,fr,FA,fc,fcode⟩:=f;try dsimp only at p0 p1 p2 p3
    have hcl:fcode.length≤8796093021952:=hF.len;have Hf:=Lib.hid hF;clear hF hc;go_wp2_with (refine wpList_at 28 rfl ?_;refine wp_stop ?_)
    try refine ⟨?_⟩
    obtain ⟨u2,hu2⟩:∃u2,u2=(u0.alloc (.cells #[.int .i64 fa,.int .i64 fl,.int .i64 fr,.slice FA fcode.length fc] 43)).alloc (.cells #[] 45):=⟨_,rfl⟩;rw[←hu2];have hb02:Below u0.heap.size u0 u2:=by rw[hu2];exact ((Below.refl _ _).alloc (Nat.le_refl _) _).alloc (by simp) _
    have hz2:u2.heap.size=u0.heap.size+1+1:=by rw[hu2];simp
    have hF2:Blk u2 u0.heap.size 43 #[.int .i64 fa,.int .i64 fl,.int .i64 fr,.slice FA fcode.length fc]:=by rw[hu2];exact (Blk.new u0 _ _).alloc _
    have ho2:Own u2 (u0.heap.size+1) 45 2 (some ⟨u0.heap.size+1,0,none⟩) 0 0 []:=by
     rw[hu2];have h:=Own.lit (u0.alloc (.cells #[.int .i64 fa,.int .i64 fl,.int .i64 fr,.slice FA fcode.length fc] 43)) (base:=u0.heap.size+1) 45 2 0 #[] (by simp) (Nat.zero_le _) rfl
     rwa [World.size_alloc] at h
    obtain ⟨gf,hgf⟩:∃g,g=u0.heap.size:=⟨_,rfl⟩;rw[←hgf] at hF2 ⊢;refine wpList_app rfl (.tmp 25) (.tmp 27) eIns rfl (by rw[hgf];rfl) ho2 (m:=fcode.length) (c':=fc) (us:=fcode.flatMap insCells) rfl ((Hf.out.below (HB0.out.trans (hb02.mono HB0.out.size))).rv) (insCells_len fcode) (ins_one fcode) (by unfold maxLen;omega) (by omega) (by omega) (fun e=>Hf.out.nil e) ?_
    intro A3' c3' u3 hown3 hg3 hA3;rw[Nat.zero_add,List.nil_append] at hown3;have hb23:Below (u0.heap.size+1) u2 u3:=(Below.refl (u0.heap.size+1) u2).grown hg3 (by omega) fun q hq=>by injection hq with hq;exact Nat.le_of_eq hq
    have hF3:Blk u3 gf 43 #[.int .i64 fa,.int .i64 fl,.int .i64 fr,.slice FA fcode.length fc]:=hF2.below hb23 (by omega)
    have hb03:Below u0.heap.size u0 u3:=hb02.trans (hb23.mono (by omega))
    have x3:u3.cell? ⟨gf,3,none⟩=some (.slice FA fcode.length fc):=hF3.cell 3;have xf3:=hF3.frozen 3;have hfl:=hF3.lt;have hz3:=hb03.size;have Hown3:=Lib.hid hown3;have Hb03:=Lib.hid hb03;have HF3:=Lib.hid hF3;have Hgf:=Lib.hid hgf;clear hown3 hg3 hA3 hb23 hF3 hb03 hu2 hb02 hz2 hF2 ho2 hgf p0 p1 p2 p3 x2;simp only[Nat.zero_add];go_wp2_with (refine wpList_at 30 rfl ?_;refine wp_stop ?_)
    try refine ⟨?_⟩
    obtain ⟨u4,hu4⟩:∃u4,u4=u3.setCell ⟨gf,3,none⟩ (.slice A3' fcode.length c3'):=⟨_,rfl⟩;rw[←hu4];have hO34:Only (fun b=>b=gf) u3 u4:=by rw[hu4];exact (Only.refl (fun b=>b=gf) u3).setCell (p:=⟨gf,3,none⟩) (.inl rfl) _
    have hF4:Blk u4 gf 43 #[.int .i64 fa,.int .i64 fl,.int .i64 fr,.slice A3' fcode.length c3']:=by rw[hu4];exact HF3.out.set_ 3 _
    have Hown4:=Lib.hid (Own.only Hown3.out hO34 fun b o e h=>by have:=(Own.lt Hown3.out b o e).1;have:=Hgf.out;omega)
    have hO04:Only (fun _=>False) u0 u4:=(Only.of_fresh Hb03.out).more hO34 fun b hb e=>by have:=Hgf.out;omega
    have hb04:Below u0.heap.size u0 u4:=hO04.below (Nat.le_refl _) fun _ _ h=>h;have t0:u4.cell? ⟨gf,0,none⟩=some (.int .i64 fa):=hF4.cell 0;have t1:u4.cell? ⟨gf,1,none⟩=some (.int .i64 fl):=hF4.cell 1;have t2:u4.cell? ⟨gf,2,none⟩=some (.int .i64 fr):=hF4.cell 2;have t3:u4.cell? ⟨gf,3,none⟩=some (.slice A3' fcode.length c3'):=hF4.cell 3;have hfl4:=hF4.lt;have hQ4:=HQ0.out.below hb04 hql0;have qq2:u4.cell? ⟨gq,2,none⟩=some (.slice AF' k cF'):=hQ4.cell 2;have hql4:=hQ4.lt;have HQ4:=Lib.hid hQ4;have Hb04:=Lib.hid hb04;have hz4:=hb04.size;clear hu4 hO34 hF4 hO04 hb04 hQ4 x3 xf3 hfl Hown3 HF3 Hb03;go_wp2_with (refine wpList_at 34 rfl ?_;refine wp_stop ?_)
    try refine ⟨?_⟩
    obtain ⟨u5,hu5⟩:∃u5,u5=u4.alloc (.cells #[.int .i64 fa,.int .i64 fl,.int .i64 fr,.slice A3' fcode.length c3'] 43):=⟨_,rfl⟩;rw[←hu5];have hb45:Below u4.heap.size u4 u5:=by rw[hu5];exact (Below.refl _ _).alloc (Nat.le_refl _) _
    have hU5:Blk u5 u4.heap.size 43 #[.int .i64 fa,.int .i64 fl,.int .i64 fr,.slice A3' fcode.length c3']:=by rw[hu5];exact Blk.new _ _ _
    have hb05:=Hb04.out.trans (hb45.mono hz4);have hz45:=hb45.size;have hfun5:=Own.below Hfun.out hb05 (Nat.le_refl _);have hrow5:=Hrow.out.below hb05;have hnew5:=Own.below Hown4.out hb45 (Nat.le_refl _);have hD5:=Own.below HD0.out hb05 (Nat.le_refl _);have hQ5:=HQ4.out.below hb45 hql4;clear hu5 t0 t1 t2 t3 qq2;refine wpList_app rfl (.tmp 31) (.tmp 33) eFun rfl rfl hfun5 (m:=1) (us:=[.int .i64 fa,.int .i64 fl,.int .i64 fr,.slice A3' fcode.length c3']) rfl (RV.of_blk hU5) rfl (by intro v hv;simp only[List.mem_cons,List.not_mem_nil,or_false] at hv;rcases hv with rfl|rfl|rfl|rfl<;>rfl) (by unfold maxLen;omega) (by omega) (by omega) (by intro h;cases h) ?_
    intro A6 c6 u6 hown6 hg6 hA6;have hrw:=Own.row hfun5;have hO56:Only (fun b=>AF'.map (·.block)=some b) u5 u6:=Only.of_grown hg6 fun k e=>e;have hQ6:=hQ5.only hO56 fun e=>by have:=hrw _ e;omega
    have hrow6:=hrow5.only hO56 fun f hf b e h=>own_ne hfun5 (hrow5.code f hf) (by decide) b h e
    have hnew6:=Own.only hnew5 hO56 fun b o e h=>own_ne hfun5 hnew5 (by decide) b h (by rw[e];rfl)
    have hz56:=hO56.size;have hOs:Only (fun b=>b=gq) u6 (u6.setCell ⟨gq,2,none⟩ (.slice A6 (k+1) c6)):=(Only.refl (fun b=>b=gq) u6).setCell (p:=⟨gq,2,none⟩) (.inl rfl) _;have hO6:Only (fun b=>b=gq) w5 u6:=(HO.out.trans (Only.of_fresh hb05)).more hO56 fun b hb e=>by have:=hrw _ e;have:=Hz5e.out;omega
    have qq2:u6.cell? ⟨gq,2,none⟩=some (.slice AF' k cF'):=hQ6.cell 2;have qqf:=hQ6.frozen 2;have hql6:=hQ6.lt;have HQn:=Lib.hid (show Blk (u6.setCell ⟨gq,2,none⟩ (.slice A6 (k+1) c6)) gq 26 #[.int .i64 mem,.slice A3 n c3,.slice A6 (k+1) c6] from hQ6.set_ 2 _)
    have Hfn:=Lib.hid (show Own (u6.setCell ⟨gq,2,none⟩ (.slice A6 (k+1) c6)) v.heap.size 43 4 A6 (k+1) c6 ((hs++[(⟨fa,fl,fr,A3',c3',fcode⟩:FunM)]).flatMap funCells) from by
     rw[List.flatMap_append];exact Own.only hown6 hOs fun b o e h=>by have:=(Own.lt hown6 b o e).1;omega)
    have Hrn:=Lib.hid ((hrow6.push (x:=⟨fa,fl,fr,A3',c3',fcode⟩) hnew6 (by omega) (fun f hf b e=>by have:=(Hrow.out.lt f hf b e).2;omega)).only hOs fun f hf b e h=>by
     rcases List.mem_append.1 hf with hf|hf
     ·have:=(hrow6.lt f hf b e).1;omega
     obtain rfl:f=⟨fa,fl,fr,A3',c3',fcode⟩:=by simpa using hf
     have:=(Own.row hnew6 b e).1;omega)
    have HOn:=Lib.hid (hO6.trans hOs)
    have Hskn:Hid ((hs++[(⟨fa,fl,fr,A3',c3',fcode⟩:FunM)]).length=k+1∧(hs++[(⟨fa,fl,fr,A3',c3',fcode⟩:FunM)]).map FunM.plain=(fs.take (k+1)).map FunM.plain):=
     Lib.hid ⟨by rw[List.length_append,List.length_singleton,hsk.out.1],by rw[List.map_append,hsk.out.2,Htk.out];rfl⟩
    generalize hs++[(⟨fa,fl,fr,A3',c3',fcode⟩:FunM)]=hn at*
    clear hown6 hg6 hA6 hrw hO56 hQ6 hrow6 hnew6 hOs hO6 hb45 hU5 hb05 hfun5 hrow5 hnew5 hD5 hQ5;go_wp2_with fail
    exact ⟨⟨k+1,hn,A6,c6,by omega,by go_num,HQn.out,Hfn.out,Hrn.out,HOn.out,Hskn⟩,by simp[intOf];omega⟩
   obtain rfl:k=m:=by omega
   have y0:u0.cell? ⟨gq,0,none⟩=some (.int .i64 mem):=HQ0.out.cell 0;have y1:u0.cell? ⟨gq,1,none⟩=some (.slice A3 n c3):=HQ0.out.cell 1;have y2:u0.cell? ⟨gq,2,none⟩=some (.slice AF' k cF'):=HQ0.out.cell 2;have r0:u0.cell? ⟨gr,0,none⟩=some (.int .i64 0):=HR0.out.cell 0;have r1:u0.cell? ⟨gr,1,none⟩=some (.slice none 0 0):=HR0.out.cell 1;have r2:u0.cell? ⟨gr,2,none⟩=some (.slice none 0 0):=HR0.out.cell 2;have rf0:=HR0.out.frozen 0;have rf1:=HR0.out.frozen 1;have rf2:=HR0.out.frozen 2;have hrl:=HR0.out.lt;go_wp2_with fail
   obtain ⟨wF,hwF⟩:∃wF,wF=(((u0.setCell ⟨gr,0,none⟩ (.int .i64 mem)).setCell ⟨gr,1,none⟩ (.slice A3 n c3)).setCell ⟨gr,2,none⟩ (.slice AF' k cF')):=⟨_,rfl⟩;rw[←hwF]
   have hOF:Only (fun b=>b=gr) u0 wF:=by
    rw[hwF];exact (((Only.refl (fun b=>b=gr) u0).setCell (p:=⟨gr,0,none⟩) (.inl rfl) _).setCell (p:=⟨gr,1,none⟩) (.inl rfl) _).setCell (p:=⟨gr,2,none⟩) (.inl rfl) _
   have hRF:Blk wF gr 26 #[.int .i64 mem,.slice A3 n c3,.slice AF' k cF']:=by
    rw[hwF];exact ((HR0.out.set_ 0 _).set_ 1 _).set_ 2 _
   have hrlF:=hRF.lt;have v0:wF.cell? ⟨gr,0,none⟩=some (.int .i64 mem):=hRF.cell 0;have v1:wF.cell? ⟨gr,1,none⟩=some (.slice A3 n c3):=hRF.cell 1;have v2:wF.cell? ⟨gr,2,none⟩=some (.slice AF' k cF'):=hRF.cell 2;have hG:=HG.out;have hD:=Own.only HD0.out hOF fun b o e h=>by have:=(Own.lt HD0.out b o e).1;omega
   have hFn:=Own.only Hfun.out hOF fun b o e h=>by have:=(Own.lt Hfun.out b o e).1;omega
   have hRw:=Hrow.out.only hOF fun f hf b e h=>by have:=(Hrow.out.lt f hf b e).1;omega
   have hlen:hs.length=k:=hsk.out.1;have hpl:=hsk.out.2;rw[List.take_of_length_le (by rw[HM.out];exact Nat.le_refl _)] at hpl
   refine bodyPost_ret (v:=.agg #[.int .i64 mem,.slice A3 n c3,.slice AF' k cF']) ?_ rfl ⟨⟨mem,A3,c3,data,AF',cF',hs⟩,?_,?_,⟨?_,?_,?_⟩,?_⟩
   ·simp[results,Try.results35,go_sem,v0,v1,v2]
   ·dsimp only[PrgM.val];rw[hlen, ←HN.out]
   ·show (⟨mem,data,hs.map FunM.plain⟩:Prg)=⟨mem,data,fs.map FunM.plain⟩
    rw[hpl]
   ·show OwnB wF w.heap.size A3 data.length c3 data
    rw[←HN.out];exact Own.mono hD (by omega)
   ·show Own wF w.heap.size _ 4 AF' hs.length cF' (hs.flatMap funCells)
    rw[hlen];exact Own.mono hFn (by omega)
   ·exact hRw.mono (by omega)
   exact HB0.out.trans ((hOF.below (B:=w.heap.size) HB0.out.size (by intro k hk e;omega)).mono (Nat.le_refl _))
  have Hzl:=Lib.hid hzl;clear hzl;go_simp;refine hK.out _ _ (HS2.out.alloc HS2.out.size _) (fun hHeld=>?_);clear hK K hHeld;obtain ⟨w2a,hw2a⟩:∃v,v=w2.alloc (.cells #[.int .i64 0,.slice none 0 0,.slice none 0 0] 26):=⟨_,rfl⟩;obtain ⟨gq,hgq⟩:∃g,g=w2.heap.size:=⟨_,rfl⟩;rw[←hw2a, ←hgq];have hbz:Below w2.heap.size w2 w2a:=by rw[hw2a];exact (Below.refl _ _).alloc (Nat.le_refl _) _
  have hqz:Blk w2a gq 26 #[.int .i64 0,.slice none 0 0,.slice none 0 0]:=by rw[hw2a,hgq];exact Blk.new w2 _ _
  have hzz:w2a.heap.size=w2.heap.size+1:=by rw[hw2a];simp
  clear hw2a;have hzl:=Hzl.out;have HS2:=Lib.hid (HS2.out.trans (hbz.mono (by omega)))
  have ho2:=Own.below ho2 hbz (Nat.le_refl _);refine hwO 5 fun K hK=>?_;refine wp_app (.tmp 8) (.tmp 10) eByte rfl rfl ho2 (m:=n) (c':=cD) (us:=data.map bv) rfl ((Hp.out.below (Hb1.out.trans (HS2.out.mono Hb1.out.size))).data.rv) (by rw[List.length_map,HN.out,Nat.mul_one]) (map_bv_one _) (by unfold maxLen;omega) (by omega) (by omega) (fun e=>by have h:=Hp.out.data.nil e;rw[←HN.out] at h;exact h) ?_
  intro A3 c3 w3 hown3 hg3 hA3;rw[List.nil_append] at hown3;simp only[Nat.zero_add] at hown3 ⊢;have hb23:Below w1.heap.size w2a w3:=(Below.refl w1.heap.size w2a).grown hg3 (by omega) fun q hq=>by injection hq with hq;rw[←hq];exact hzu
  have HS3:=Lib.hid (HS2.out.trans hb23);have HO3:=Lib.hid (hown3.mono hzu);have HR3':=Lib.hid (Own.row hown3);have hz3:=hg3.size;have hz13:=HS3.out.size;refine hK.out _ _ HS3.out (fun hHeld=>?_);clear hK K hHeld;have hvq:w1.heap.size≤gq:=by omega
  have hne:(some gq:Option Nat)≠(some (⟨u0.heap.size,0,none⟩:Addr)).map (·.block):=fun e=>by injection e with e;change gq=u0.heap.size at e;omega
  have HVq:=Lib.hid (Blk.grown hqz hg3 hne)
  have HVn:=Lib.hid (fun (b:Nat) (e:A3.map (·.block)=some b)=>show b≠gq from by
   rcases hA3 with h|h
   ·rw[h] at e;injection e with e;change u0.heap.size=b at e;omega
   rw[h] at e;injection e with e;omega)
  refine hwK 6 (.agg #[.int .i64 mem,.slice A3 n c3,.slice none 0 0]) HS3.out ?_ (hy:=by intro w hSw;(try dsimp only at hSw);go_simp)
  simp only[Act.put];obtain ⟨v,hv⟩:∃v,v=w3:=⟨_,rfl⟩;rw[←hv] at HVq HO3 HS3;have HVb:=HS3;have HVo:=HO3;rw[←hv];clear hbz hqz hzz hgq hown3 hg3 hA3 hb23 ho2 HS2 HO3 HR3' hzl hzu HSu hz3 hne hv HS3;refine fun _=>⟨by kernel_rfl,?_⟩
  have q0:v.cell? ⟨gq,0,none⟩=some (.int .i64 0):=HVq.out.cell 0;have q1:v.cell? ⟨gq,1,none⟩=some (.slice none 0 0):=HVq.out.cell 1;have q2:v.cell? ⟨gq,2,none⟩=some (.slice none 0 0):=HVq.out.cell 2;have qf0:=HVq.out.frozen 0;have qf1:=HVq.out.frozen 1;have qf2:=HVq.out.frozen 2;have hql:=HVq.out.lt;go_wp2_with (refine wpList_at 14 rfl ?_;refine wp_stop ?_)
  try refine ⟨?_⟩
  obtain ⟨w5,hw5⟩:∃w5,w5=((v.setCell ⟨gq,0,none⟩ (.int .i64 mem)).setCell ⟨gq,1,none⟩ (.slice A3 n c3)).setCell ⟨gq,2,none⟩ (.slice none 0 0):=⟨_,rfl⟩;rw[←hw5];have hO5:Only (fun b=>b=gq) v w5:=by rw[hw5];exact (((Only.refl (fun b=>b=gq) v).setCell (p:=⟨gq,0,none⟩) (.inl rfl) _).setCell (p:=⟨gq,1,none⟩) (.inl rfl) _).setCell (p:=⟨gq,2,none⟩) (.inl rfl) _
  have hQ5:Blk w5 gq 26 #[.int .i64 mem,.slice A3 n c3,.slice none 0 0]:=by rw[hw5];exact ((HVq.out.set_ 0 _).set_ 1 _).set_ 2 _
  have hz5:=hO5.size;have Hz5e:=Lib.hid (show w5.heap.size=v.heap.size from by rw[hw5];simp)
  have HX5:=Lib.hid ((HX1.out.below HVb.out hxl1).only hO5 (by omega))
  have HR5:=Lib.hid ((HR1.out.below HVb.out hr1).only hO5 (by omega))
  have HB5:=Lib.hid (Hb1.out.trans ((HVb.out.trans (hO5.below (B:=w1.heap.size) HVb.out.size (by intro k hk e;omega))).mono Hb1.out.size))
  have HD5:=Lib.hid (Own.only HVo.out hO5 fun b o e h=>HVn.out b (by rw[e];rfl) h)
  have HDr:=Lib.hid (Own.row HVo.out);have HQ5:=Lib.hid hQ5;clear hw5 hO5 hQ5 HVb HVq HVo q0 q1 q2 qf0 qf1 qf2 Hs0 Hs1 HX1 HR1;go_wp2_with fail
  go_loopw [4] (fun vv wr=>∃(k:Nat) (hs:List FunM) (AF':Option Addr) (cF':Nat),k≤m∧vv= .int .i64 k∧Blk wr gq 26 #[.int .i64 mem,.slice A3 n c3,.slice AF' k cF']∧Own wr v.heap.size 43 4 AF' k cF' (hs.flatMap funCells)∧MineR wr v.heap.size hs∧Only (fun b=>b=gq) w5 wr∧Hid (hs.length=k∧hs.map FunM.plain=(fs.take k).map FunM.plain)) (fun vv _=>m-(intOf vv).toNat)
  case atStart=>exact ⟨0,[],none,0,Nat.zero_le _,rfl,HQ5.out,Own.nil _ _ _ _,MineR.nil _ _,Only.refl _ _,Lib.hid ⟨rfl,rfl⟩⟩
  rename World=>u0;obtain ⟨k,hs,AF',cF',hk,rfl,hblk,hfun,hrow,hO,hsk⟩:=hrel;have hX:=HX5.out.only hO (by omega)
  have hz0:=hO.size;have x2:u0.cell? ⟨gx,2,none⟩=some (.slice AF m cF):=hX.cell 2;have hxl:=hX.lt;have hql0:=hblk.lt;have HB0:=Lib.hid (HB5.out.trans ((hO.below (B:=w.heap.size) HB5.out.size (by have:=HG.out;intro k hk e;omega)).mono (Nat.le_refl _)))
  have HX0:=Lib.hid hX;have HR0:=Lib.hid (HR5.out.only hO (by omega))
  have HD0:=Lib.hid (Own.only HD5.out hO fun b o e h=>HVn.out b (by rw[e];rfl) h)
  have HQ0:=Lib.hid hblk;have Hfun:=Lib.hid hfun;have Hrow:=Lib.hid hrow;have HO:=Lib.hid hO;clear hblk hfun hrow hO hX;by_cases hlt:k<m
  ·have g1:(k:Int)<(m:Int):=by omega
   obtain ⟨b,off,hA,hb,hc⟩:=(Hp.out.below HB0.out).rv.at_ (by rw[funCells_len];have:=HM.out;dsimp only;omega)
   dsimp only at hA;subst hA;have hkl:k<fs.length:=by have:=HM.out;omega
   obtain ⟨p0,p1,p2,p3⟩:=fun_cells hc k hkl;dsimp only at p0 p1 p2 p3;have hF:=Hp.out.funs _ (List.getElem_mem hkl);have Htk:=Lib.hid (show (fs.take (k+1)).map FunM.plain=(fs.take k).map FunM.plain++[fs[k].plain] from by rw[List.take_succ_eq_append_getElem hkl,List.map_append];rfl)
   generalize fs[k]=f at*
   obtain ⟨fa,fl,fr,FA,fc,fcode⟩:=f;try dsimp only at p0 p1 p2 p3
   have hcl:fcode.length≤8796093021952:=hF.len;have Hf:=Lib.hid hF;clear hF hc;go_wp2_with (refine wpList_at 28 rfl ?_;refine wp_stop ?_)
   try refine ⟨?_⟩
   obtain ⟨u2,hu2⟩:∃u2,u2=(u0.alloc (.cells #[.int .i64 fa,.int .i64 fl,.int .i64 fr,.slice FA fcode.length fc] 43)).alloc (.cells #[] 45):=⟨_,rfl⟩;rw[←hu2];have hb02:Below u0.heap.size u0 u2:=by rw[hu2];exact ((Below.refl _ _).alloc (Nat.le_refl _) _).alloc (by simp) _
   have hz2:u2.heap.size=u0.heap.size+1+1:=by rw[hu2];simp
   have hF2:Blk u2 u0.heap.size 43 #[.int .i64 fa,.int .i64 fl,.int .i64 fr,.slice FA fcode.length fc]:=by rw[hu2];exact (Blk.new u0 _ _).alloc _
   have ho2:Own u2 (u0.heap.size+1) 45 2 (some ⟨u0.heap.size+1,0,none⟩) 0 0 []:=by
    rw[hu2];have h:=Own.lit (u0.alloc (.cells #[.int .i64 fa,.int .i64 fl,.int .i64 fr,.slice FA fcode.length fc] 43)) (base:=u0.heap.size+1) 45 2 0 #[] (by simp) (Nat.zero_le _) rfl
    rwa [World.size_alloc] at h
   obtain ⟨gf,hgf⟩:∃g,g=u0.heap.size:=⟨_,rfl⟩;rw[←hgf] at hF2 ⊢;refine wpList_app rfl (.tmp 25) (.tmp 27) eIns rfl (by rw[hgf];rfl) ho2 (m:=fcode.length) (c':=fc) (us:=fcode.flatMap insCells) rfl ((Hf.out.below (HB0.out.trans (hb02.mono HB0.out.size))).rv) (insCells_len fcode) (ins_one fcode) (by unfold maxLen;omega) (by omega) (by omega) (fun e=>Hf.out.nil e) ?_
   intro A3' c3' u3 hown3 hg3 hA3;rw[Nat.zero_add,List.nil_append] at hown3;have hb23:Below (u0.heap.size+1) u2 u3:=(Below.refl (u0.heap.size+1) u2).grown hg3 (by omega) fun q hq=>by injection hq with hq;exact Nat.le_of_eq hq
   have hF3:Blk u3 gf 43 #[.int .i64 fa,.int .i64 fl,.int .i64 fr,.slice FA fcode.length fc]:=hF2.below hb23 (by omega)
   have hb03:Below u0.heap.size u0 u3:=hb02.trans (hb23.mono (by omega))
   have x3:u3.cell? ⟨gf,3,none⟩=some (.slice FA fcode.length fc):=hF3.cell 3;have xf3:=hF3.frozen 3;have hfl:=hF3.lt;have hz3:=hb03.size;have Hown3:=Lib.hid hown3;have Hb03:=Lib.hid hb03;have HF3:=Lib.hid hF3;have Hgf:=Lib.hid hgf;clear hown3 hg3 hA3 hb23 hF3 hb03 hu2 hb02 hz2 hF2 ho2 hgf p0 p1 p2 p3 x2;simp only[Nat.zero_add];go_wp2_with (refine wpList_at 30 rfl ?_;refine wp_stop ?_)
   try refine ⟨?_⟩
   obtain ⟨u4,hu4⟩:∃u4,u4=u3.setCell ⟨gf,3,none⟩ (.slice A3' fcode.length c3'):=⟨_,rfl⟩;rw[←hu4];have hO34:Only (fun b=>b=gf) u3 u4:=by rw[hu4];exact (Only.refl (fun b=>b=gf) u3).setCell (p:=⟨gf,3,none⟩) (.inl rfl) _
   have hF4:Blk u4 gf 43 #[.int .i64 fa,.int .i64 fl,.int .i64 fr,.slice A3' fcode.length c3']:=by rw[hu4];exact HF3.out.set_ 3 _
   have Hown4:=Lib.hid (Own.only Hown3.out hO34 fun b o e h=>by have:=(Own.lt Hown3.out b o e).1;have:=Hgf.out;omega)
   have hO04:Only (fun _=>False) u0 u4:=(Only.of_fresh Hb03.out).more hO34 fun b hb e=>by have:=Hgf.out;omega
   have hb04:Below u0.heap.size u0 u4:=hO04.below (Nat.le_refl _) fun _ _ h=>h;have t0:u4.cell? ⟨gf,0,none⟩=some (.int .i64 fa):=hF4.cell 0;have t1:u4.cell? ⟨gf,1,none⟩=some (.int .i64 fl):=hF4.cell 1;have t2:u4.cell? ⟨gf,2,none⟩=some (.int .i64 fr):=hF4.cell 2;have t3:u4.cell? ⟨gf,3,none⟩=some (.slice A3' fcode.length c3'):=hF4.cell 3;have hfl4:=hF4.lt;have hQ4:=HQ0.out.below hb04 hql0;have qq2:u4.cell? ⟨gq,2,none⟩=some (.slice AF' k cF'):=hQ4.cell 2;have hql4:=hQ4.lt;have HQ4:=Lib.hid hQ4;have Hb04:=Lib.hid hb04;have hz4:=hb04.size;clear hu4 hO34 hF4 hO04 hb04 hQ4 x3 xf3 hfl Hown3 HF3 Hb03;go_wp2_with (refine wpList_at 34 rfl ?_;refine wp_stop ?_)
   try refine ⟨?_⟩
   obtain ⟨u5,hu5⟩:∃u5,u5=u4.alloc (.cells #[.int .i64 fa,.int .i64 fl,.int .i64 fr,.slice A3' fcode.length c3'] 43):=⟨_,rfl⟩;rw[←hu5];have hb45:Below u4.heap.size u4 u5:=by rw[hu5];exact (Below.refl _ _).alloc (Nat.le_refl _) _
   have hU5:Blk u5 u4.heap.size 43 #[.int .i64 fa,.int .i64 fl,.int .i64 fr,.slice A3' fcode.length c3']:=by rw[hu5];exact Blk.new _ _ _
   have hb05:=Hb04.out.trans (hb45.mono hz4);have hz45:=hb45.size;have hfun5:=Own.below Hfun.out hb05 (Nat.le_refl _);have hrow5:=Hrow.out.below hb05;have hnew5:=Own.below Hown4.out hb45 (Nat.le_refl _);have hD5:=Own.below HD0.out hb05 (Nat.le_refl _);have hQ5:=HQ4.out.below hb45 hql4;clear hu5 t0 t1 t2 t3 qq2;refine wpList_app rfl (.tmp 31) (.tmp 33) eFun rfl rfl hfun5 (m:=1) (us:=[.int .i64 fa,.int .i64 fl,.int .i64 fr,.slice A3' fcode.length c3']) rfl (RV.of_blk hU5) rfl (by intro v hv;simp only[List.mem_cons,List.not_mem_nil,or_false] at hv;rcases hv with rfl|rfl|rfl|rfl<;>rfl) (by unfold maxLen;omega) (by omega) (by omega) (by intro h;cases h) ?_
   intro A6 c6 u6 hown6 hg6 hA6;have hrw:=Own.row hfun5;have hO56:Only (fun b=>AF'.map (·.block)=some b) u5 u6:=Only.of_grown hg6 fun k e=>e;have hQ6:=hQ5.only hO56 fun e=>by have:=hrw _ e;omega
   have hrow6:=hrow5.only hO56 fun f hf b e h=>own_ne hfun5 (hrow5.code f hf) (by decide) b h e
   have hnew6:=Own.only hnew5 hO56 fun b o e h=>own_ne hfun5 hnew5 (by decide) b h (by rw[e];rfl)
   have hz56:=hO56.size;have hOs:Only (fun b=>b=gq) u6 (u6.setCell ⟨gq,2,none⟩ (.slice A6 (k+1) c6)):=(Only.refl (fun b=>b=gq) u6).setCell (p:=⟨gq,2,none⟩) (.inl rfl) _;have hO6:Only (fun b=>b=gq) w5 u6:=(HO.out.trans (Only.of_fresh hb05)).more hO56 fun b hb e=>by have:=hrw _ e;have:=Hz5e.out;omega
   have qq2:u6.cell? ⟨gq,2,none⟩=some (.slice AF' k cF'):=hQ6.cell 2;have qqf:=hQ6.frozen 2;have hql6:=hQ6.lt;have HQn:=Lib.hid (show Blk (u6.setCell ⟨gq,2,none⟩ (.slice A6 (k+1) c6)) gq 26 #[.int .i64 mem,.slice A3 n c3,.slice A6 (k+1) c6] from hQ6.set_ 2 _)
   have Hfn:=Lib.hid (show Own (u6.setCell ⟨gq,2,none⟩ (.slice A6 (k+1) c6)) v.heap.size 43 4 A6 (k+1) c6 ((hs++[(⟨fa,fl,fr,A3',c3',fcode⟩:FunM)]).flatMap funCells) from by
    rw[List.flatMap_append];exact Own.only hown6 hOs fun b o e h=>by have:=(Own.lt hown6 b o e).1;omega)
   have Hrn:=Lib.hid ((hrow6.push (x:=⟨fa,fl,fr,A3',c3',fcode⟩) hnew6 (by omega) (fun f hf b e=>by have:=(Hrow.out.lt f hf b e).2;omega)).only hOs fun f hf b e h=>by
    rcases List.mem_append.1 hf with hf|hf
    ·have:=(hrow6.lt f hf b e).1;omega
    obtain rfl:f=⟨fa,fl,fr,A3',c3',fcode⟩:=by simpa using hf
    have:=(Own.row hnew6 b e).1;omega)
   have HOn:=Lib.hid (hO6.trans hOs)
   have Hskn:Hid ((hs++[(⟨fa,fl,fr,A3',c3',fcode⟩:FunM)]).length=k+1∧(hs++[(⟨fa,fl,fr,A3',c3',fcode⟩:FunM)]).map FunM.plain=(fs.take (k+1)).map FunM.plain):=
    Lib.hid ⟨by rw[List.length_append,List.length_singleton,hsk.out.1],by rw[List.map_append,hsk.out.2,Htk.out];rfl⟩
   generalize hs++[(⟨fa,fl,fr,A3',c3',fcode⟩:FunM)]=hn at*
   clear hown6 hg6 hA6 hrw hO56 hQ6 hrow6 hnew6 hOs hO6 hb45 hU5 hb05 hfun5 hrow5 hnew5 hD5 hQ5;go_wp2_with fail
   exact ⟨⟨k+1,hn,A6,c6,by omega,by go_num,HQn.out,Hfn.out,Hrn.out,HOn.out,Hskn⟩,by simp[intOf];omega⟩
  obtain rfl:k=m:=by omega
  have y0:u0.cell? ⟨gq,0,none⟩=some (.int .i64 mem):=HQ0.out.cell 0;have y1:u0.cell? ⟨gq,1,none⟩=some (.slice A3 n c3):=HQ0.out.cell 1;have y2:u0.cell? ⟨gq,2,none⟩=some (.slice AF' k cF'):=HQ0.out.cell 2;have r0:u0.cell? ⟨gr,0,none⟩=some (.int .i64 0):=HR0.out.cell 0;have r1:u0.cell? ⟨gr,1,none⟩=some (.slice none 0 0):=HR0.out.cell 1;have r2:u0.cell? ⟨gr,2,none⟩=some (.slice none 0 0):=HR0.out.cell 2;have rf0:=HR0.out.frozen 0;have rf1:=HR0.out.frozen 1;have rf2:=HR0.out.frozen 2;have hrl:=HR0.out.lt;go_wp2_with fail
  obtain ⟨wF,hwF⟩:∃wF,wF=(((u0.setCell ⟨gr,0,none⟩ (.int .i64 mem)).setCell ⟨gr,1,none⟩ (.slice A3 n c3)).setCell ⟨gr,2,none⟩ (.slice AF' k cF')):=⟨_,rfl⟩;rw[←hwF]
  have hOF:Only (fun b=>b=gr) u0 wF:=by
   rw[hwF];exact (((Only.refl (fun b=>b=gr) u0).setCell (p:=⟨gr,0,none⟩) (.inl rfl) _).setCell (p:=⟨gr,1,none⟩) (.inl rfl) _).setCell (p:=⟨gr,2,none⟩) (.inl rfl) _
  have hRF:Blk wF gr 26 #[.int .i64 mem,.slice A3 n c3,.slice AF' k cF']:=by
   rw[hwF];exact ((HR0.out.set_ 0 _).set_ 1 _).set_ 2 _
  have hrlF:=hRF.lt;have v0:wF.cell? ⟨gr,0,none⟩=some (.int .i64 mem):=hRF.cell 0;have v1:wF.cell? ⟨gr,1,none⟩=some (.slice A3 n c3):=hRF.cell 1;have v2:wF.cell? ⟨gr,2,none⟩=some (.slice AF' k cF'):=hRF.cell 2;have hG:=HG.out;have hD:=Own.only HD0.out hOF fun b o e h=>by have:=(Own.lt HD0.out b o e).1;omega
  have hFn:=Own.only Hfun.out hOF fun b o e h=>by have:=(Own.lt Hfun.out b o e).1;omega
  have hRw:=Hrow.out.only hOF fun f hf b e h=>by have:=(Hrow.out.lt f hf b e).1;omega
  have hlen:hs.length=k:=hsk.out.1;have hpl:=hsk.out.2;rw[List.take_of_length_le (by rw[HM.out];exact Nat.le_refl _)] at hpl
  refine bodyPost_ret (v:=.agg #[.int .i64 mem,.slice A3 n c3,.slice AF' k cF']) ?_ rfl ⟨⟨mem,A3,c3,data,AF',cF',hs⟩,?_,?_,⟨?_,?_,?_⟩,?_⟩
  ·simp[results,Try.results35,go_sem,v0,v1,v2]
  ·dsimp only[PrgM.val];rw[hlen, ←HN.out]
  ·show (⟨mem,data,hs.map FunM.plain⟩:Prg)=⟨mem,data,fs.map FunM.plain⟩
   rw[hpl]
  ·show OwnB wF w.heap.size A3 data.length c3 data
   rw[←HN.out];exact Own.mono hD (by omega)
  ·show Own wF w.heap.size _ 4 AF' hs.length cF' (hs.flatMap funCells)
   rw[hlen];exact Own.mono hFn (by omega)
  ·exact hRw.mono (by omega)
  exact HB0.out.trans ((hOF.below (B:=w.heap.size) HB0.out.size (by intro k hk e;omega)).mono (Nat.le_refl _))
 go_simp;refine hK.out _ _ (HSu.out.alloc HSu.out.size _) (fun hHeld=>?_);clear hK K hHeld;obtain ⟨u1,hu1⟩:∃v,v=u0.alloc (.cells #[.int .i64 0,.slice none 0 0,.slice none 0 0] 26):=⟨_,rfl⟩;obtain ⟨gq,hgq⟩:∃g,g=u0.heap.size:=⟨_,rfl⟩;rw[←hu1, ←hgq];have hbz:Below u0.heap.size u0 u1:=by rw[hu1];exact (Below.refl _ _).alloc (Nat.le_refl _) _
 have hqz:Blk u1 gq 26 #[.int .i64 0,.slice none 0 0,.slice none 0 0]:=by rw[hu1,hgq];exact Blk.new u0 _ _
 have hzz:u1.heap.size=u0.heap.size+1:=by rw[hu1];simp
 clear hu1;have hzu0:=HSu.out.size;have HSu:=Lib.hid (HSu.out.trans (hbz.mono HSu.out.size));have Hzz:=Lib.hid (And.intro hzz hgq);clear hzz hgq;refine hwO 2 fun K hK=>?_;go_simp;refine hK.out _ _ (HSu.out.alloc HSu.out.size _) (fun hHeld=>?_);clear hK K hHeld;obtain ⟨hzz,hgq⟩:=Hzz.out;obtain ⟨w2,hw2⟩:∃w2,w2=u1.alloc (.cells #[] 5):=⟨_,rfl⟩;rw[←hw2];have ho2:Own w2 u1.heap.size 5 1 (some ⟨u1.heap.size,0,none⟩) 0 0 []:=by rw[hw2];exact Own.lit u1 5 1 0 #[] (Nat.le_refl _) (Nat.zero_le _) rfl
 have HS2:=Lib.hid (show Below w1.heap.size w1 w2 from by rw[hw2];exact (HSu.out.alloc HSu.out.size _))
 have hzl:w2.heap.size=u1.heap.size+1:=by rw[hw2];simp
 have hzu:=HSu.out.size;have hqz:=hqz.below (show Below u1.heap.size u1 w2 from by rw[hw2];exact (Below.refl _ _).alloc (Nat.le_refl _) _) (by omega)
 clear hw2;refine hwO 5 fun K hK=>?_;refine wp_app (.tmp 8) (.tmp 10) eByte rfl rfl ho2 (m:=n) (c':=cD) (us:=data.map bv) rfl ((Hp.out.below (Hb1.out.trans (HS2.out.mono Hb1.out.size))).data.rv) (by rw[List.length_map,HN.out,Nat.mul_one]) (map_bv_one _) (by unfold maxLen;omega) (by omega) (by omega) (fun e=>by have h:=Hp.out.data.nil e;rw[←HN.out] at h;exact h) ?_
 intro A3 c3 w3 hown3 hg3 hA3;rw[List.nil_append] at hown3;simp only[Nat.zero_add] at hown3 ⊢;have hb23:Below w1.heap.size w2 w3:=(Below.refl w1.heap.size w2).grown hg3 (by omega) fun q hq=>by injection hq with hq;rw[←hq];exact hzu
 have HS3:=Lib.hid (HS2.out.trans hb23);have HO3:=Lib.hid (hown3.mono hzu);have HR3':=Lib.hid (Own.row hown3);have hz3:=hg3.size;have hz13:=HS3.out.size;refine hK.out _ _ HS3.out (fun hHeld=>?_);clear hK K hHeld;have hvq:w1.heap.size≤gq:=by omega
 have hne:(some gq:Option Nat)≠(some (⟨u1.heap.size,0,none⟩:Addr)).map (·.block):=fun e=>by injection e with e;change gq=u1.heap.size at e;omega
 have HVq:=Lib.hid (Blk.grown hqz hg3 hne)
 have HVn:=Lib.hid (fun (b:Nat) (e:A3.map (·.block)=some b)=>show b≠gq from by
  rcases hA3 with h|h
  ·rw[h] at e;injection e with e;change u1.heap.size=b at e;omega
  rw[h] at e;injection e with e;omega)
 refine hwK 6 (.agg #[.int .i64 mem,.slice A3 n c3,.slice none 0 0]) HS3.out ?_ (hy:=by intro w hSw;(try dsimp only at hSw);go_simp)
 simp only[Act.put];obtain ⟨v,hv⟩:∃v,v=w3:=⟨_,rfl⟩;rw[←hv] at HVq HO3 HS3;have HVb:=HS3;have HVo:=HO3;rw[←hv];clear hbz hqz hzz hgq hown3 hg3 hA3 hb23 ho2 HS2 HO3 HR3' hzl hzu HSu hz3 hne hv HS3;refine fun _=>⟨by kernel_rfl,?_⟩
 have q0:v.cell? ⟨gq,0,none⟩=some (.int .i64 0):=HVq.out.cell 0;have q1:v.cell? ⟨gq,1,none⟩=some (.slice none 0 0):=HVq.out.cell 1;have q2:v.cell? ⟨gq,2,none⟩=some (.slice none 0 0):=HVq.out.cell 2;have qf0:=HVq.out.frozen 0;have qf1:=HVq.out.frozen 1;have qf2:=HVq.out.frozen 2;have hql:=HVq.out.lt;go_wp2_with (refine wpList_at 14 rfl ?_;refine wp_stop ?_)
 try refine ⟨?_⟩
 obtain ⟨w5,hw5⟩:∃w5,w5=((v.setCell ⟨gq,0,none⟩ (.int .i64 mem)).setCell ⟨gq,1,none⟩ (.slice A3 n c3)).setCell ⟨gq,2,none⟩ (.slice none 0 0):=⟨_,rfl⟩;rw[←hw5];have hO5:Only (fun b=>b=gq) v w5:=by rw[hw5];exact (((Only.refl (fun b=>b=gq) v).setCell (p:=⟨gq,0,none⟩) (.inl rfl) _).setCell (p:=⟨gq,1,none⟩) (.inl rfl) _).setCell (p:=⟨gq,2,none⟩) (.inl rfl) _
 have hQ5:Blk w5 gq 26 #[.int .i64 mem,.slice A3 n c3,.slice none 0 0]:=by rw[hw5];exact ((HVq.out.set_ 0 _).set_ 1 _).set_ 2 _
 have hz5:=hO5.size;have Hz5e:=Lib.hid (show w5.heap.size=v.heap.size from by rw[hw5];simp)
 have HX5:=Lib.hid ((HX1.out.below HVb.out hxl1).only hO5 (by omega))
 have HR5:=Lib.hid ((HR1.out.below HVb.out hr1).only hO5 (by omega))
 have HB5:=Lib.hid (Hb1.out.trans ((HVb.out.trans (hO5.below (B:=w1.heap.size) HVb.out.size (by intro k hk e;omega))).mono Hb1.out.size))
 have HD5:=Lib.hid (Own.only HVo.out hO5 fun b o e h=>HVn.out b (by rw[e];rfl) h)
 have HDr:=Lib.hid (Own.row HVo.out);have HQ5:=Lib.hid hQ5;clear hw5 hO5 hQ5 HVb HVq HVo q0 q1 q2 qf0 qf1 qf2 Hs0 Hs1 HX1 HR1;go_wp2_with fail
 go_loopw [4] (fun vv wr=>∃(k:Nat) (hs:List FunM) (AF':Option Addr) (cF':Nat),k≤m∧vv= .int .i64 k∧Blk wr gq 26 #[.int .i64 mem,.slice A3 n c3,.slice AF' k cF']∧Own wr v.heap.size 43 4 AF' k cF' (hs.flatMap funCells)∧MineR wr v.heap.size hs∧Only (fun b=>b=gq) w5 wr∧Hid (hs.length=k∧hs.map FunM.plain=(fs.take k).map FunM.plain)) (fun vv _=>m-(intOf vv).toNat)
 case atStart=>exact ⟨0,[],none,0,Nat.zero_le _,rfl,HQ5.out,Own.nil _ _ _ _,MineR.nil _ _,Only.refl _ _,Lib.hid ⟨rfl,rfl⟩⟩
 rename World=>u0;obtain ⟨k,hs,AF',cF',hk,rfl,hblk,hfun,hrow,hO,hsk⟩:=hrel;have hX:=HX5.out.only hO (by omega)
 have hz0:=hO.size;have x2:u0.cell? ⟨gx,2,none⟩=some (.slice AF m cF):=hX.cell 2;have hxl:=hX.lt;have hql0:=hblk.lt;have HB0:=Lib.hid (HB5.out.trans ((hO.below (B:=w.heap.size) HB5.out.size (by have:=HG.out;intro k hk e;omega)).mono (Nat.le_refl _)))
 have HX0:=Lib.hid hX;have HR0:=Lib.hid (HR5.out.only hO (by omega))
 have HD0:=Lib.hid (Own.only HD5.out hO fun b o e h=>HVn.out b (by rw[e];rfl) h)
 have HQ0:=Lib.hid hblk;have Hfun:=Lib.hid hfun;have Hrow:=Lib.hid hrow;have HO:=Lib.hid hO;clear hblk hfun hrow hO hX;by_cases hlt:k<m
 ·have g1:(k:Int)<(m:Int):=by omega
  obtain ⟨b,off,hA,hb,hc⟩:=(Hp.out.below HB0.out).rv.at_ (by rw[funCells_len];have:=HM.out;dsimp only;omega)
  dsimp only at hA;subst hA;have hkl:k<fs.length:=by have:=HM.out;omega
  obtain ⟨p0,p1,p2,p3⟩:=fun_cells hc k hkl;dsimp only at p0 p1 p2 p3;have hF:=Hp.out.funs _ (List.getElem_mem hkl);have Htk:=Lib.hid (show (fs.take (k+1)).map FunM.plain=(fs.take k).map FunM.plain++[fs[k].plain] from by rw[List.take_succ_eq_append_getElem hkl,List.map_append];rfl)
  generalize fs[k]=f at*
  obtain ⟨fa,fl,fr,FA,fc,fcode⟩:=f;try dsimp only at p0 p1 p2 p3
  have hcl:fcode.length≤8796093021952:=hF.len;have Hf:=Lib.hid hF;clear hF hc;go_wp2_with (refine wpList_at 28 rfl ?_;refine wp_stop ?_)
  try refine ⟨?_⟩
  obtain ⟨u2,hu2⟩:∃u2,u2=(u0.alloc (.cells #[.int .i64 fa,.int .i64 fl,.int .i64 fr,.slice FA fcode.length fc] 43)).alloc (.cells #[] 45):=⟨_,rfl⟩;rw[←hu2];have hb02:Below u0.heap.size u0 u2:=by rw[hu2];exact ((Below.refl _ _).alloc (Nat.le_refl _) _).alloc (by simp) _
  have hz2:u2.heap.size=u0.heap.size+1+1:=by rw[hu2];simp
  have hF2:Blk u2 u0.heap.size 43 #[.int .i64 fa,.int .i64 fl,.int .i64 fr,.slice FA fcode.length fc]:=by rw[hu2];exact (Blk.new u0 _ _).alloc _
  have ho2:Own u2 (u0.heap.size+1) 45 2 (some ⟨u0.heap.size+1,0,none⟩) 0 0 []:=by
   rw[hu2];have h:=Own.lit (u0.alloc (.cells #[.int .i64 fa,.int .i64 fl,.int .i64 fr,.slice FA fcode.length fc] 43)) (base:=u0.heap.size+1) 45 2 0 #[] (by simp) (Nat.zero_le _) rfl
   rwa [World.size_alloc] at h
  obtain ⟨gf,hgf⟩:∃g,g=u0.heap.size:=⟨_,rfl⟩;rw[←hgf] at hF2 ⊢;refine wpList_app rfl (.tmp 25) (.tmp 27) eIns rfl (by rw[hgf];rfl) ho2 (m:=fcode.length) (c':=fc) (us:=fcode.flatMap insCells) rfl ((Hf.out.below (HB0.out.trans (hb02.mono HB0.out.size))).rv) (insCells_len fcode) (ins_one fcode) (by unfold maxLen;omega) (by omega) (by omega) (fun e=>Hf.out.nil e) ?_
  intro A3' c3' u3 hown3 hg3 hA3;rw[Nat.zero_add,List.nil_append] at hown3;have hb23:Below (u0.heap.size+1) u2 u3:=(Below.refl (u0.heap.size+1) u2).grown hg3 (by omega) fun q hq=>by injection hq with hq;exact Nat.le_of_eq hq
  have hF3:Blk u3 gf 43 #[.int .i64 fa,.int .i64 fl,.int .i64 fr,.slice FA fcode.length fc]:=hF2.below hb23 (by omega)
  have hb03:Below u0.heap.size u0 u3:=hb02.trans (hb23.mono (by omega))
  have x3:u3.cell? ⟨gf,3,none⟩=some (.slice FA fcode.length fc):=hF3.cell 3;have xf3:=hF3.frozen 3;have hfl:=hF3.lt;have hz3:=hb03.size;have Hown3:=Lib.hid hown3;have Hb03:=Lib.hid hb03;have HF3:=Lib.hid hF3;have Hgf:=Lib.hid hgf;clear hown3 hg3 hA3 hb23 hF3 hb03 hu2 hb02 hz2 hF2 ho2 hgf p0 p1 p2 p3 x2;simp only[Nat.zero_add];go_wp2_with (refine wpList_at 30 rfl ?_;refine wp_stop ?_)
  try refine ⟨?_⟩
  obtain ⟨u4,hu4⟩:∃u4,u4=u3.setCell ⟨gf,3,none⟩ (.slice A3' fcode.length c3'):=⟨_,rfl⟩;rw[←hu4];have hO34:Only (fun b=>b=gf) u3 u4:=by rw[hu4];exact (Only.refl (fun b=>b=gf) u3).setCell (p:=⟨gf,3,none⟩) (.inl rfl) _
  have hF4:Blk u4 gf 43 #[.int .i64 fa,.int .i64 fl,.int .i64 fr,.slice A3' fcode.length c3']:=by rw[hu4];exact HF3.out.set_ 3 _
  have Hown4:=Lib.hid (Own.only Hown3.out hO34 fun b o e h=>by have:=(Own.lt Hown3.out b o e).1;have:=Hgf.out;omega)
  have hO04:Only (fun _=>False) u0 u4:=(Only.of_fresh Hb03.out).more hO34 fun b hb e=>by have:=Hgf.out;omega
  have hb04:Below u0.heap.size u0 u4:=hO04.below (Nat.le_refl _) fun _ _ h=>h;have t0:u4.cell? ⟨gf,0,none⟩=some (.int .i64 fa):=hF4.cell 0;have t1:u4.cell? ⟨gf,1,none⟩=some (.int .i64 fl):=hF4.cell 1;have t2:u4.cell? ⟨gf,2,none⟩=some (.int .i64 fr):=hF4.cell 2;have t3:u4.cell? ⟨gf,3,none⟩=some (.slice A3' fcode.length c3'):=hF4.cell 3;have hfl4:=hF4.lt;have hQ4:=HQ0.out.below hb04 hql0;have qq2:u4.cell? ⟨gq,2,none⟩=some (.slice AF' k cF'):=hQ4.cell 2;have hql4:=hQ4.lt;have HQ4:=Lib.hid hQ4;have Hb04:=Lib.hid hb04;have hz4:=hb04.size;clear hu4 hO34 hF4 hO04 hb04 hQ4 x3 xf3 hfl Hown3 HF3 Hb03;go_wp2_with (refine wpList_at 34 rfl ?_;refine wp_stop ?_)
  try refine ⟨?_⟩
  obtain ⟨u5,hu5⟩:∃u5,u5=u4.alloc (.cells #[.int .i64 fa,.int .i64 fl,.int .i64 fr,.slice A3' fcode.length c3'] 43):=⟨_,rfl⟩;rw[←hu5];have hb45:Below u4.heap.size u4 u5:=by rw[hu5];exact (Below.refl _ _).alloc (Nat.le_refl _) _
  have hU5:Blk u5 u4.heap.size 43 #[.int .i64 fa,.int .i64 fl,.int .i64 fr,.slice A3' fcode.length c3']:=by rw[hu5];exact Blk.new _ _ _
  have hb05:=Hb04.out.trans (hb45.mono hz4);have hz45:=hb45.size;have hfun5:=Own.below Hfun.out hb05 (Nat.le_refl _);have hrow5:=Hrow.out.below hb05;have hnew5:=Own.below Hown4.out hb45 (Nat.le_refl _);have hD5:=Own.below HD0.out hb05 (Nat.le_refl _);have hQ5:=HQ4.out.below hb45 hql4;clear hu5 t0 t1 t2 t3 qq2;refine wpList_app rfl (.tmp 31) (.tmp 33) eFun rfl rfl hfun5 (m:=1) (us:=[.int .i64 fa,.int .i64 fl,.int .i64 fr,.slice A3' fcode.length c3']) rfl (RV.of_blk hU5) rfl (by intro v hv;simp only[List.mem_cons,List.not_mem_nil,or_false] at hv;rcases hv with rfl|rfl|rfl|rfl<;>rfl) (by unfold maxLen;omega) (by omega) (by omega) (by intro h;cases h) ?_
  intro A6 c6 u6 hown6 hg6 hA6;have hrw:=Own.row hfun5;have hO56:Only (fun b=>AF'.map (·.block)=some b) u5 u6:=Only.of_grown hg6 fun k e=>e;have hQ6:=hQ5.only hO56 fun e=>by have:=hrw _ e;omega
  have hrow6:=hrow5.only hO56 fun f hf b e h=>own_ne hfun5 (hrow5.code f hf) (by decide) b h e
  have hnew6:=Own.only hnew5 hO56 fun b o e h=>own_ne hfun5 hnew5 (by decide) b h (by rw[e];rfl)
  have hz56:=hO56.size;have hOs:Only (fun b=>b=gq) u6 (u6.setCell ⟨gq,2,none⟩ (.slice A6 (k+1) c6)):=(Only.refl (fun b=>b=gq) u6).setCell (p:=⟨gq,2,none⟩) (.inl rfl) _;have hO6:Only (fun b=>b=gq) w5 u6:=(HO.out.trans (Only.of_fresh hb05)).more hO56 fun b hb e=>by have:=hrw _ e;have:=Hz5e.out;omega
  have qq2:u6.cell? ⟨gq,2,none⟩=some (.slice AF' k cF'):=hQ6.cell 2;have qqf:=hQ6.frozen 2;have hql6:=hQ6.lt;have HQn:=Lib.hid (show Blk (u6.setCell ⟨gq,2,none⟩ (.slice A6 (k+1) c6)) gq 26 #[.int .i64 mem,.slice A3 n c3,.slice A6 (k+1) c6] from hQ6.set_ 2 _)
  have Hfn:=Lib.hid (show Own (u6.setCell ⟨gq,2,none⟩ (.slice A6 (k+1) c6)) v.heap.size 43 4 A6 (k+1) c6 ((hs++[(⟨fa,fl,fr,A3',c3',fcode⟩:FunM)]).flatMap funCells) from by
   rw[List.flatMap_append];exact Own.only hown6 hOs fun b o e h=>by have:=(Own.lt hown6 b o e).1;omega)
  have Hrn:=Lib.hid ((hrow6.push (x:=⟨fa,fl,fr,A3',c3',fcode⟩) hnew6 (by omega) (fun f hf b e=>by have:=(Hrow.out.lt f hf b e).2;omega)).only hOs fun f hf b e h=>by
   rcases List.mem_append.1 hf with hf|hf
   ·have:=(hrow6.lt f hf b e).1;omega
   obtain rfl:f=⟨fa,fl,fr,A3',c3',fcode⟩:=by simpa using hf
   have:=(Own.row hnew6 b e).1;omega)
  have HOn:=Lib.hid (hO6.trans hOs)
  have Hskn:Hid ((hs++[(⟨fa,fl,fr,A3',c3',fcode⟩:FunM)]).length=k+1∧(hs++[(⟨fa,fl,fr,A3',c3',fcode⟩:FunM)]).map FunM.plain=(fs.take (k+1)).map FunM.plain):=
   Lib.hid ⟨by rw[List.length_append,List.length_singleton,hsk.out.1],by rw[List.map_append,hsk.out.2,Htk.out];rfl⟩
  generalize hs++[(⟨fa,fl,fr,A3',c3',fcode⟩:FunM)]=hn at*
  clear hown6 hg6 hA6 hrw hO56 hQ6 hrow6 hnew6 hOs hO6 hb45 hU5 hb05 hfun5 hrow5 hnew5 hD5 hQ5;go_wp2_with fail
  exact ⟨⟨k+1,hn,A6,c6,by omega,by go_num,HQn.out,Hfn.out,Hrn.out,HOn.out,Hskn⟩,by simp[intOf];omega⟩
 obtain rfl:k=m:=by omega
 have y0:u0.cell? ⟨gq,0,none⟩=some (.int .i64 mem):=HQ0.out.cell 0;have y1:u0.cell? ⟨gq,1,none⟩=some (.slice A3 n c3):=HQ0.out.cell 1;have y2:u0.cell? ⟨gq,2,none⟩=some (.slice AF' k cF'):=HQ0.out.cell 2;have r0:u0.cell? ⟨gr,0,none⟩=some (.int .i64 0):=HR0.out.cell 0;have r1:u0.cell? ⟨gr,1,none⟩=some (.slice none 0 0):=HR0.out.cell 1;have r2:u0.cell? ⟨gr,2,none⟩=some (.slice none 0 0):=HR0.out.cell 2;have rf0:=HR0.out.frozen 0;have rf1:=HR0.out.frozen 1;have rf2:=HR0.out.frozen 2;have hrl:=HR0.out.lt;go_wp2_with fail
 obtain ⟨wF,hwF⟩:∃wF,wF=(((u0.setCell ⟨gr,0,none⟩ (.int .i64 mem)).setCell ⟨gr,1,none⟩ (.slice A3 n c3)).setCell ⟨gr,2,none⟩ (.slice AF' k cF')):=⟨_,rfl⟩;rw[←hwF]
 have hOF:Only (fun b=>b=gr) u0 wF:=by
  rw[hwF];exact (((Only.refl (fun b=>b=gr) u0).setCell (p:=⟨gr,0,none⟩) (.inl rfl) _).setCell (p:=⟨gr,1,none⟩) (.inl rfl) _).setCell (p:=⟨gr,2,none⟩) (.inl rfl) _
 have hRF:Blk wF gr 26 #[.int .i64 mem,.slice A3 n c3,.slice AF' k cF']:=by
  rw[hwF];exact ((HR0.out.set_ 0 _).set_ 1 _).set_ 2 _
 have hrlF:=hRF.lt;have v0:wF.cell? ⟨gr,0,none⟩=some (.int .i64 mem):=hRF.cell 0;have v1:wF.cell? ⟨gr,1,none⟩=some (.slice A3 n c3):=hRF.cell 1;have v2:wF.cell? ⟨gr,2,none⟩=some (.slice AF' k cF'):=hRF.cell 2;have hG:=HG.out;have hD:=Own.only HD0.out hOF fun b o e h=>by have:=(Own.lt HD0.out b o e).1;omega
 have hFn:=Own.only Hfun.out hOF fun b o e h=>by have:=(Own.lt Hfun.out b o e).1;omega
 have hRw:=Hrow.out.only hOF fun f hf b e h=>by have:=(Hrow.out.lt f hf b e).1;omega
 have hlen:hs.length=k:=hsk.out.1;have hpl:=hsk.out.2;rw[List.take_of_length_le (by rw[HM.out];exact Nat.le_refl _)] at hpl
 refine bodyPost_ret (v:=.agg #[.int .i64 mem,.slice A3 n c3,.slice AF' k cF']) ?_ rfl ⟨⟨mem,A3,c3,data,AF',cF',hs⟩,?_,?_,⟨?_,?_,?_⟩,?_⟩
 ·simp[results,Try.results35,go_sem,v0,v1,v2]
 ·dsimp only[PrgM.val];rw[hlen, ←HN.out]
 ·show (⟨mem,data,hs.map FunM.plain⟩:Prg)=⟨mem,data,fs.map FunM.plain⟩
  rw[hpl]
 ·show OwnB wF w.heap.size A3 data.length c3 data
  rw[←HN.out];exact Own.mono hD (by omega)
 ·show Own wF w.heap.size _ 4 AF' hs.length cF' (hs.flatMap funCells)
  rw[hlen];exact Own.mono hFn (by omega)
 ·exact hRw.mono (by omega)
 exact HB0.out.trans ((hOF.below (B:=w.heap.size) HB0.out.size (by intro k hk e;omega)).mono (Nat.le_refl _))
end Go.Proofs.Ytcmpmhlcfalbhaa
