import Derived.Test.YtcmpmhlcfalbhaaV11
import Derived.Test.YtcmpmhlcfalbhaaV10
import Derived.Deep.CutRange
namespace Go.Proofs.Ytcmpmhlcfalbhaa
open Go.RowKit
structure StandOk (P:Prg) (f n:Nat) (i:Ins):Prop where
 ins:P.ins f n=some i
 t0:0≤(takesL P f n).1
 t1:(takesL P f n).1≤1000
 g0:0≤(takesL P f n).2
 g1:(takesL P f n).2≤1000
 a:i.op=5→i.a≤4000000000000000000
theorem Blk.new2 (w:World) (o:Obj) (t:TypeId) (cs:Array Value):Blk ((w.alloc o).alloc (.cells cs t)) (w.heap.size+1) t cs:=by
 have h:=Blk.new (w.alloc o) t cs;rw[World.size_alloc] at h;exact h
set_option maxRecDepth 100000 in
set_option maxHeartbeats 4000000 in
theorem stand_any (p:PrgM) (f n:Nat) (h:Int) (i:Ins) (w:World) (hp:PrgAt w p) (hs:StandOk p.plain f n i) (h1: -1≤h) (h2:h≤100000):
  Calls Try.prog 62 #[p.val,.agg #[.int .i64 (f:Int),.int .i64 (n:Int)],.int .i64 h] w (TakesPost w (standI p.plain f n i h)):=by
 obtain ⟨R,hR⟩:∃R,R=standI p.plain f n i h:=⟨_,rfl⟩
 rw[←hR]
 have hfl:p.fs.length≤2932031007402:=hp.flen
 obtain ⟨F,k,gg,e1,e2,hg,hi⟩:=PrgM.spot_some hs.ins
 obtain rfl:f=F:=by omega
 obtain rfl:n=k:=by omega
 clear e1 e2
 obtain ⟨T,hT⟩:∃T,T=takesL p.plain f n:=⟨_,rfl⟩
 obtain ⟨⟩:=hs
 rename_i hins t0 t1 g0 g1 ha
 unfold standI at hR
 rw[PrgM.len_plain hg,PrgM.results_plain hg] at hR
 rw[←hT] at t0 t1 g0 g1 hR
 obtain ⟨AF,hAF⟩:∃A,A=p.AF:=⟨_,rfl⟩
 show Calls Try.prog _ #[.agg #[.int .i64 p.mem,.slice p.AD p.data.length p.cD,.slice p.AF p.fs.length p.cF],_,_] w _
 rw[←hAF]
 obtain ⟨w1,hw1⟩:∃w1,w1=(w.alloc (.cells #[.int .i64 p.mem,.slice p.AD p.data.length p.cD,.slice AF p.fs.length p.cF] 26)).alloc (.cells #[.int .i64 (f:Int),.int .i64 (n:Int)] 35):=⟨_,rfl⟩
 have hb1:Below w.heap.size w w1:=by rw[hw1];exact ((Below.refl _ _).alloc (Nat.le_refl _) _).alloc (by simp) _
 have hX1:Blk w1 w.heap.size 26 #[.int .i64 p.mem,.slice p.AD p.data.length p.cD,.slice AF p.fs.length p.cF]:=by rw[hw1];exact (Blk.new w _ _).alloc _
 have hS1:Blk w1 (w.heap.size+1) 35 #[.int .i64 (f:Int),.int .i64 (n:Int)]:=by
  rw[hw1];have h:=Blk.new (w.alloc (.cells #[.int .i64 p.mem,.slice p.AD p.data.length p.cD,.slice AF p.fs.length p.cF] 26)) 35 #[.int .i64 (f:Int),.int .i64 (n:Int)];rw[World.size_alloc] at h;exact h
 obtain ⟨gx,hgx⟩:∃g,g=w.heap.size:=⟨_,rfl⟩
 obtain ⟨gs,hgs⟩:∃g,g=w.heap.size+1:=⟨_,rfl⟩
 rw[←hgx] at hX1
 rw[←hgs] at hS1
 rw[←hgx] at hgs
 have hP1:=hp.below hb1
 obtain ⟨b,off,hA,hb,q0,q1,q2,q3,hF,hFl⟩:=hP1.fn hg
 obtain ⟨b2,off2,hA2,hb2,r0,r1,hio,hnl⟩:=hF.ins hi
 rw[←hAF] at hA
 subst hA
 obtain ⟨ga,gl,gr,gA,gc,gcode⟩:=gg
 dsimp only at q0 q1 q2 q3 hA2 hnl hR
 subst hA2
 have hcl:gcode.length≤8796093021952:=hF.len
 have hfl2:(f:Int)<(p.fs.length:Int):=by omega
 have hnl2:(n:Int)<(gcode.length:Int):=by omega
 have x2:w1.cell? ⟨gx,2,none⟩=some (.slice (some ⟨b,off,none⟩) p.fs.length p.cF):=hX1.cell 2
 have s0:w1.cell? ⟨gs,0,none⟩=some (.int .i64 (f:Int)):=hS1.cell 0
 have s1:w1.cell? ⟨gs,1,none⟩=some (.int .i64 (n:Int)):=hS1.cell 1
 have xl:=hX1.lt
 have sl:=hS1.lt
 have HX:=Lib.hid hX1
 have HS:=Lib.hid hS1
 have Hw1:=Lib.hid hw1
 have HB1:=Lib.hid hb1
 have HP:=Lib.hid hP1
 have Hgx:=Lib.hid hgx
 have Hgs:=Lib.hid hgs
 have HAF:=Lib.hid hAF
 have HT:=Lib.hid hT
 have Hio:=Lib.hid hio
 obtain ⟨op,a⟩:=i
 dsimp only at r0 r1 ha hR
 have Hgo0:=Lib.hid (fun w'=>goes_any ⟨op,a⟩ n w' hio (by omega))
 dsimp only at Hgo0
 have hgl:=goesL_len ⟨op,a⟩ n
 generalize goesL ⟨op,a⟩ n=G at*
 obtain ⟨t,g⟩:=T
 dsimp only at t0 t1 g0 g1 hR
 have HR0:=Lib.hid hR
 clear hp hw1 hb1 hX1 hS1 hgx hgs hAF hT hR hP1 hF hi hg hio hins
 go_enter Try.func62,Try.ntmps62
 go_wp2_with fail
 rw[←Hw1.out, ←Hgx.out, ←Hgs.out]
 have Hx2:=Lib.hid (fun (w':World) (h:Below w1.heap.size w1 w')=>show w'.cell? ⟨gx,2,none⟩=some (.slice (some ⟨b,off,none⟩) p.fs.length p.cF) from (HX.out.below h HX.out.lt).cell 2)
 have Hs0:=Lib.hid (fun (w':World) (h:Below w1.heap.size w1 w')=>show w'.cell? ⟨gs,0,none⟩=some (.int .i64 (f:Int)) from (HS.out.below h HS.out.lt).cell 0)
 have Hs1:=Lib.hid (fun (w':World) (h:Below w1.heap.size w1 w')=>show w'.cell? ⟨gs,1,none⟩=some (.int .i64 (n:Int)) from (HS.out.below h HS.out.lt).cell 1)
 have Hq:=Lib.hid (fun (w':World) (h:Below w1.heap.size w1 w')=>show w'.cell? ⟨b,off+f*4,none⟩=some (.int .i64 ga)∧w'.cell? ⟨b,off+f*4+1,none⟩=some (.int .i64 gl)∧w'.cell? ⟨b,off+f*4+2,none⟩=some (.int .i64 gr)∧w'.cell? ⟨b,off+f*4+3,none⟩=some (.slice (some ⟨b2,off2,none⟩) gcode.length gc) from ⟨(bcell h).1 _ _ hb ▸ q0,(bcell h).1 _ _ hb ▸ q1,(bcell h).1 _ _ hb ▸ q2,(bcell h).1 _ _ hb ▸ q3⟩)
 have Hr:=Lib.hid (fun (w':World) (h:Below w1.heap.size w1 w')=>show w'.cell? ⟨b2,off2+n*2,none⟩=some (.int .i64 op)∧w'.cell? ⟨b2,off2+n*2+1,none⟩=some (.int .i64 a) from ⟨(bcell h).1 _ _ hb2 ▸ r0,(bcell h).1 _ _ hb2 ▸ r1⟩)
 go_upto_region 1 with (fail)
 go_cut [8,9] from 16 to 32 (fun s t wx=>∃gi gf,s= .pointer (some ⟨gi,0,none⟩)∧t= .pointer (some ⟨gf,0,none⟩)∧Blk wx gi 45 #[.int .i64 op,.int .i64 a]∧Blk wx gf 43 #[.int .i64 ga,.int .i64 gl,.int .i64 gr,.slice (some ⟨b2,off2,none⟩) gcode.length gc]∧Below w1.heap.size w1 wx)
 case first=>
  have hb0d:=below_drewN (Below.refl w1.heap.size w1) 1;have HSC:=Lib.hid hb0d;refine region_heldT 21 (fun w'=>Below w1.heap.size w1 w') (by kernel_rfl) (by decide) ?_
  refine hwA 0 (.pointer (some ⟨gx,2,none⟩)) HSC.out ?_ (hy:=by intro w hSw;have e0:=Hx2.out w hSw;have e1:=Hs0.out w hSw;have e2:=Hs1.out w hSw;have e3:=Hq.out w hSw;have e4:=Hr.out w hSw;(try dsimp only at hSw);go_simp)
  simp only[Act.put,List.setIfInBounds_toArray];refine hwA 1 (.slice (some ⟨b,off,none⟩) p.fs.length p.cF) HSC.out ?_ (hy:=by intro w hSw;have e0:=Hx2.out w hSw;have e1:=Hs0.out w hSw;have e2:=Hs1.out w hSw;have e3:=Hq.out w hSw;have e4:=Hr.out w hSw;(try dsimp only at hSw);go_simp)
  simp only[Act.put];refine hwA 2 (.pointer (some ⟨gs,0,none⟩)) HSC.out ?_ (hy:=by intro w hSw;have e0:=Hx2.out w hSw;have e1:=Hs0.out w hSw;have e2:=Hs1.out w hSw;have e3:=Hq.out w hSw;have e4:=Hr.out w hSw;(try dsimp only at hSw);go_simp)
  simp only[Act.put];refine hwA 3 (.int .i64 (f:Int)) HSC.out ?_ (hy:=by intro w hSw;have e0:=Hx2.out w hSw;have e1:=Hs0.out w hSw;have e2:=Hs1.out w hSw;have e3:=Hq.out w hSw;have e4:=Hr.out w hSw;(try dsimp only at hSw);go_simp)
  simp only[Act.put];refine hwA 4 (.pointer (some ⟨b,off+f*4,none⟩)) HSC.out ?_ (hy:=by intro w hSw;have e0:=Hx2.out w hSw;have e1:=Hs0.out w hSw;have e2:=Hs1.out w hSw;have e3:=Hq.out w hSw;have e4:=Hr.out w hSw;(try dsimp only at hSw);go_simp)
  simp only[Act.put];refine hwA 5 (.pointer (some ⟨b,off+f*4+3,none⟩)) HSC.out ?_ (hy:=by intro w hSw;have e0:=Hx2.out w hSw;have e1:=Hs0.out w hSw;have e2:=Hs1.out w hSw;have e3:=Hq.out w hSw;have e4:=Hr.out w hSw;(try dsimp only at hSw);go_simp)
  simp only[Act.put];refine hwA 6 (.slice (some ⟨b2,off2,none⟩) gcode.length gc) HSC.out ?_ (hy:=by intro w hSw;have e0:=Hx2.out w hSw;have e1:=Hs0.out w hSw;have e2:=Hs1.out w hSw;have e3:=Hq.out w hSw;have e4:=Hr.out w hSw;(try dsimp only at hSw);go_simp)
  simp only[Act.put];refine hwA 7 (.pointer (some ⟨gs,1,none⟩)) HSC.out ?_ (hy:=by intro w hSw;have e0:=Hx2.out w hSw;have e1:=Hs0.out w hSw;have e2:=Hs1.out w hSw;have e3:=Hq.out w hSw;have e4:=Hr.out w hSw;(try dsimp only at hSw);go_simp)
  simp only[Act.put];refine hwA 8 (.int .i64 (n:Int)) HSC.out ?_ (hy:=by intro w hSw;have e0:=Hx2.out w hSw;have e1:=Hs0.out w hSw;have e2:=Hs1.out w hSw;have e3:=Hq.out w hSw;have e4:=Hr.out w hSw;(try dsimp only at hSw);go_simp)
  simp only[Act.put];refine hwA 9 (.pointer (some ⟨b2,off2+n*2,none⟩)) HSC.out ?_ (hy:=by intro w hSw;have e0:=Hx2.out w hSw;have e1:=Hs0.out w hSw;have e2:=Hs1.out w hSw;have e3:=Hq.out w hSw;have e4:=Hr.out w hSw;(try dsimp only at hSw);go_simp)
  simp only[Act.put];refine hwA 10 (.agg #[.int .i64 op,.int .i64 a]) HSC.out ?_ (hy:=by intro w hSw;have e0:=Hx2.out w hSw;have e1:=Hs0.out w hSw;have e2:=Hs1.out w hSw;have e3:=Hq.out w hSw;have e4:=Hr.out w hSw;(try dsimp only at hSw);go_simp)
  simp only[Act.put];refine hwA 11 (.pointer (some ⟨gx,2,none⟩)) HSC.out ?_ (hy:=by intro w hSw;have e0:=Hx2.out w hSw;have e1:=Hs0.out w hSw;have e2:=Hs1.out w hSw;have e3:=Hq.out w hSw;have e4:=Hr.out w hSw;(try dsimp only at hSw);go_simp)
  simp only[Act.put];refine hwA 12 (.slice (some ⟨b,off,none⟩) p.fs.length p.cF) HSC.out ?_ (hy:=by intro w hSw;have e0:=Hx2.out w hSw;have e1:=Hs0.out w hSw;have e2:=Hs1.out w hSw;have e3:=Hq.out w hSw;have e4:=Hr.out w hSw;(try dsimp only at hSw);go_simp)
  simp only[Act.put];refine hwA 13 (.pointer (some ⟨gs,0,none⟩)) HSC.out ?_ (hy:=by intro w hSw;have e0:=Hx2.out w hSw;have e1:=Hs0.out w hSw;have e2:=Hs1.out w hSw;have e3:=Hq.out w hSw;have e4:=Hr.out w hSw;(try dsimp only at hSw);go_simp)
  simp only[Act.put];refine hwA 14 (.int .i64 (f:Int)) HSC.out ?_ (hy:=by intro w hSw;have e0:=Hx2.out w hSw;have e1:=Hs0.out w hSw;have e2:=Hs1.out w hSw;have e3:=Hq.out w hSw;have e4:=Hr.out w hSw;(try dsimp only at hSw);go_simp)
  simp only[Act.put];refine hwA 15 (.pointer (some ⟨b,off+f*4,none⟩)) HSC.out ?_ (hy:=by intro w hSw;have e0:=Hx2.out w hSw;have e1:=Hs0.out w hSw;have e2:=Hs1.out w hSw;have e3:=Hq.out w hSw;have e4:=Hr.out w hSw;(try dsimp only at hSw);go_simp)
  simp only[Act.put];refine hwA 16 (.agg #[.int .i64 ga,.int .i64 gl,.int .i64 gr,.slice (some ⟨b2,off2,none⟩) gcode.length gc]) HSC.out ?_ (hy:=by intro w hSw;have e0:=Hx2.out w hSw;have e1:=Hs0.out w hSw;have e2:=Hs1.out w hSw;have e3:=Hq.out w hSw;have e4:=Hr.out w hSw;(try dsimp only at hSw);go_simp)
  simp only[Act.put];refine headW_two 17 18 rfl rfl (by decide) (by decide) (by kernel_rfl) (by kernel_rfl) (by kernel_rfl) (fun K hK=>?_) (fun K hK=>?_)
  ·go_simp;refine hK.out _ _ (HSC.out.alloc HSC.out.size _) (fun hHeld=>?_);clear hK K hHeld;refine hwO 18 fun K hK=>?_;go_simp;refine hK.out _ _ ((HSC.out.alloc HSC.out.size _).alloc (HSC.out.alloc HSC.out.size _).size _) (fun hHeld=>?_);clear hK K hHeld;refine hwO 19 fun K hK=>?_;go_simp;refine hK.out _ _ (below_drewN (((Below.refl _ w1).alloc (Nat.le_refl _) _).alloc (by simp) _) 1) (fun hHeld=>?_)
   clear hK K hHeld;refine hwO 20 fun K hK=>?_;go_simp;refine hK.out _ _ (below_drewN (((Below.refl _ w1).alloc (Nat.le_refl _) _).alloc (by simp) _) 1) (fun hHeld=>?_)
   clear hK K hHeld;refine fun _=>⟨by kernel_rfl,?_⟩
   simp only[List.drop_succ_cons,List.drop_zero];refine (‹∀(a':Act) (w':World),Met _ a' w'→_› _ _ ?_);go_meet;have hI:Blk ((w1.alloc (.cells #[.int .i64 op,.int .i64 a] 45)).alloc (.cells #[.int .i64 ga,.int .i64 gl,.int .i64 gr,.slice (some ⟨b2,off2,none⟩) gcode.length gc] 43)) w1.heap.size 45 #[.int .i64 op,.int .i64 a]:=(Blk.new w1 _ _).alloc _;have hF:Blk ((w1.alloc (.cells #[.int .i64 op,.int .i64 a] 45)).alloc (.cells #[.int .i64 ga,.int .i64 gl,.int .i64 gr,.slice (some ⟨b2,off2,none⟩) gcode.length gc] 43)) (w1.heap.size+1) 43 #[.int .i64 ga,.int .i64 gl,.int .i64 gr,.slice (some ⟨b2,off2,none⟩) gcode.length gc]:=Blk.new2 w1 _ _ _;exact ⟨w1.heap.size,(w1.heap.size+1),rfl,rfl,hI,hF,below_drewN (((Below.refl _ w1).alloc (Nat.le_refl _) _).alloc (by simp) _) 1⟩
  ·go_simp;refine hK.out _ _ (HSC.out.alloc HSC.out.size _) (fun hHeld=>?_);clear hK K hHeld;refine hwO 17 fun K hK=>?_;go_simp;refine hK.out _ _ ((HSC.out.alloc HSC.out.size _).alloc (HSC.out.alloc HSC.out.size _).size _) (fun hHeld=>?_);clear hK K hHeld;refine hwO 19 fun K hK=>?_;go_simp;refine hK.out _ _ (below_drewN (((Below.refl _ w1).alloc (Nat.le_refl _) _).alloc (by simp) _) 1) (fun hHeld=>?_)
   clear hK K hHeld;refine hwO 20 fun K hK=>?_;go_simp;refine hK.out _ _ (below_drewN (((Below.refl _ w1).alloc (Nat.le_refl _) _).alloc (by simp) _) 1) (fun hHeld=>?_)
   clear hK K hHeld;refine fun _=>⟨by kernel_rfl,?_⟩
   simp only[List.drop_succ_cons,List.drop_zero];refine (‹∀(a':Act) (w':World),Met _ a' w'→_› _ _ ?_);go_meet;have hI:Blk ((w1.alloc (.cells #[.int .i64 ga,.int .i64 gl,.int .i64 gr,.slice (some ⟨b2,off2,none⟩) gcode.length gc] 43)).alloc (.cells #[.int .i64 op,.int .i64 a] 45)) (w1.heap.size+1) 45 #[.int .i64 op,.int .i64 a]:=Blk.new2 w1 _ _ _;have hF:Blk ((w1.alloc (.cells #[.int .i64 ga,.int .i64 gl,.int .i64 gr,.slice (some ⟨b2,off2,none⟩) gcode.length gc] 43)).alloc (.cells #[.int .i64 op,.int .i64 a] 45)) w1.heap.size 43 #[.int .i64 ga,.int .i64 gl,.int .i64 gr,.slice (some ⟨b2,off2,none⟩) gcode.length gc]:=(Blk.new w1 _ _).alloc _;exact ⟨(w1.heap.size+1),w1.heap.size,rfl,rfl,hI,hF,below_drewN (((Below.refl _ w1).alloc (Nat.le_refl _) _).alloc (by simp) _) 1⟩
 case rest=>
 rename World=>w3
 obtain ⟨gi,gf,rfl,rfl,hI3,hF3,hb13⟩:=hcut
 have HB3:=Lib.hid (HB1.out.trans (hb13.mono HB1.out.size))
 have HX3:=Lib.hid (HX.out.below hb13 HX.out.lt)
 have HS3:=Lib.hid (HS.out.below hb13 HS.out.lt)
 have HP3:=Lib.hid (HP.out.below hb13)
 have HI3:=Lib.hid hI3
 have HF3:=Lib.hid hF3
 clear x2 s0 s1 xl sl q0 q1 q2 q3 r0 r1 hI3 hF3 hb13 HX HS HP Hw1 HB1 hb hb2 Hx2 Hs0 Hs1 Hq Hr
 generalize some (⟨b2,off2,none⟩:Addr)=gA at*
 have x0:w3.cell? ⟨gx,0,none⟩=some (.int .i64 p.mem):=HX3.out.cell 0
 have x1:w3.cell? ⟨gx,1,none⟩=some (.slice p.AD p.data.length p.cD):=HX3.out.cell 1
 have x2:w3.cell? ⟨gx,2,none⟩=some (.slice p.AF p.fs.length p.cF):=by rw[←HAF.out];exact HX3.out.cell 2
 have s0:w3.cell? ⟨gs,0,none⟩=some (.int .i64 (f:Int)):=HS3.out.cell 0
 have s1:w3.cell? ⟨gs,1,none⟩=some (.int .i64 (n:Int)):=HS3.out.cell 1
 have xl:=HX3.out.lt
 have sl:=HS3.out.lt
 have Htk:=Lib.hid (takes_any p f n w3 HP3.out)
 go_wp2_with fail
 refine Htk.out.mono ?_
 rw[←HT.out]
 rintro e w4 ⟨rfl,hb4⟩
 dsimp only
 have HB4:=Lib.hid (HB3.out.trans (hb4.mono HB3.out.size))
 have HS4:=Lib.hid (HS3.out.below hb4 HS3.out.lt)
 have HI4:=Lib.hid (HI3.out.below hb4 HI3.out.lt)
 have HF4:=Lib.hid (HF3.out.below hb4 HF3.out.lt)
 have Hgo:=Lib.hid (Hgo0.out w4)
 clear x0 x1 x2 s0 s1 xl sl hb4 Htk HX3 HS3 HP3 HI3 HF3 HB3 Hgo0
 have s0:w4.cell? ⟨gs,0,none⟩=some (.int .i64 (f:Int)):=HS4.out.cell 0
 have s1:w4.cell? ⟨gs,1,none⟩=some (.int .i64 (n:Int)):=HS4.out.cell 1
 have xl:gx<w4.heap.size:=by have:=HS4.out.lt;have:=Hgs.out;omega
 have sl:=HS4.out.lt
 have i0:w4.cell? ⟨gi,0,none⟩=some (.int .i64 op):=HI4.out.cell 0
 have i1:w4.cell? ⟨gi,1,none⟩=some (.int .i64 a):=HI4.out.cell 1
 have il:=HI4.out.lt
 have f2:w4.cell? ⟨gf,2,none⟩=some (.int .i64 gr):=HF4.out.cell 2
 have f3:w4.cell? ⟨gf,3,none⟩=some (.slice gA gcode.length gc):=HF4.out.cell 3
 have fl:=HF4.out.lt
 have ho1:=Hio.out.a1
 have ho2:=Hio.out.a2
 dsimp only at ho1 ho2
 by_cases h18:op=18
 ·subst h18;by_cases hr:h=gr
  ·have HR:=Lib.hid (show R=if 256<h-t+g then (135,0) else if G.any (fun x=>decide ((gcode.length:Int)≤x))=true then (137,0) else (0,h-t+g) from by rw[HR0.out,if_neg (by rw[if_pos rfl];simpa using hr)])
   clear HR0;subst hr;by_cases hb256:256<h-t+g
   ·have HR2:=Lib.hid (show R=(135,0) from by rw[HR.out,if_pos hb256])
    clear HR;go_wp2_with fail
    refine bodyPost_ret (v:=.tuple #[.int .i64 R.1,.int .i64 R.2]) ?_ rfl ⟨rfl,HB4.out⟩;simp[results,Try.results62,go_sem,HR2.out]
   have HR1:=Lib.hid (show R=if G.any (fun x=>decide ((gcode.length:Int)≤x))=true then (137,0) else (0,h-t+g) from by rw[HR.out,if_neg hb256])
   clear HR;go_wp2_with fail
   refine Hgo.out.mono ?_;rintro e w5 ⟨A,c,rfl,hown,hb5⟩;have HB5:=Lib.hid (HB4.out.trans (hb5.mono HB4.out.size));have HF5:=Lib.hid (HF4.out.below hb5 HF4.out.lt);have HG5:=Lib.hid hown;clear hown hb5 Hgo s0 s1 xl sl i0 i1 il f2 f3 fl;go_wp2_with fail
   go_loopw [70] (fun i wr=>∃j:Nat,j≤G.length∧i= .int .i64 j∧Hid (∀x∈G.take j,¬ (gcode.length:Int)≤x)∧Below w5.heap.size w5 wr) (fun i _=>G.length-(intOf i).toNat)
   case atStart=>exact ⟨0,Nat.zero_le _,rfl,Lib.hid (fun x hx=>by cases hx),Below.refl _ _⟩
   rename World=>w6;obtain ⟨j,hj,rfl,HJ,hB⟩:=hrel;by_cases hlt:j<G.length
   ·have g1:(j:Int)<(G.length:Int):=by omega
    have hO6:OwnI w6 w4.heap.size A G.length c G:=Own.below HG5.out hB (Nat.le_refl _);obtain ⟨ga',rfl,-,hga⟩:=own_some hO6 (by omega)
    have e0:=OwnI.at_ hO6 j hlt;have Htk:=Lib.hid (take_next G j hlt);have Hmem:=Lib.hid (List.getElem_mem hlt);generalize G[j]=x at*
    have f3:w6.cell? ⟨gf,3,none⟩=some (.slice gA gcode.length gc):=(HF5.out.below hB HF5.out.lt).cell 3;have fl:=(HF5.out.below hB HF5.out.lt).lt;have HB6:=Lib.hid hB;have HB06:=Lib.hid (HB5.out.trans (hB.mono HB5.out.size));clear hB hO6;by_cases hx:(gcode.length:Int)≤x
    ·have HR2:=Lib.hid (show R=(137,0) from by rw[HR1.out,if_pos (List.any_eq_true.2 ⟨x,Hmem.out,by simpa using hx⟩)])
     clear HR1;go_wp2_with fail
     refine bodyPost_ret (v:=.tuple #[.int .i64 R.1,.int .i64 R.2]) ?_ rfl ⟨rfl,HB06.out⟩;simp[results,Try.results62,go_sem,HR2.out]
    have HJ2:=Lib.hid (show ∀y∈G.take (j+1),¬ (gcode.length:Int)≤y from fun y hy=>by
     rw[Htk.out,List.mem_append] at hy;rcases hy with hy|hy
     ·exact HJ.out y hy
     rw[List.mem_singleton.1 hy];exact hx)
    go_wp2_with fail
    exact ⟨⟨j+1,by omega,by go_num,HJ2,HB6.out⟩,by simp[intOf];omega⟩
   obtain rfl:j=G.length:=by omega
   have HR2:=Lib.hid (show R=(0,h-t+g) from by
    rw[HR1.out,if_neg];intro h1;obtain ⟨x,hx,hx2⟩:=List.any_eq_true.1 h1;exact HJ.out x (by rw[List.take_length];exact hx) (by simpa using hx2))
   have HB06:=Lib.hid (HB5.out.trans (hB.mono HB5.out.size));clear HR1 hB;go_wp2_with fail
   refine bodyPost_ret (v:=.tuple #[.int .i64 R.1,.int .i64 R.2]) ?_ rfl ⟨rfl,HB06.out⟩;simp[results,Try.results62,go_sem,HR2.out]
  have HR2:=Lib.hid (show R=(138,0) from by rw[HR0.out,if_pos (by rw[if_pos rfl];exact hr),if_pos rfl])
  clear HR0;have hr0:(h==gr)=false:=by rw[beq_eq_false_iff_ne];exact hr
  have hr2: ¬ gr=h:=fun e=>hr e.symm;have hr1:(h != gr)=true:=by rw[bne,hr0];rfl
  go_wp2_with fail
  refine bodyPost_ret (v:=.tuple #[.int .i64 R.1,.int .i64 R.2]) ?_ rfl ⟨rfl,HB4.out⟩;simp[results,Try.results62,go_sem,HR2.out]
 by_cases h5:op=5
 ·subst h5;have ha5:=ha rfl;by_cases hr:a+1>h
  ·have HR2:=Lib.hid (show R=(134,0) from by rw[HR0.out,if_pos (by rw[if_neg (by decide),if_pos rfl];exact hr),if_neg (by decide)])
   clear HR0;go_wp2_with fail
   refine bodyPost_ret (v:=.tuple #[.int .i64 R.1,.int .i64 R.2]) ?_ rfl ⟨rfl,HB4.out⟩;simp[results,Try.results62,go_sem,HR2.out]
  have HR:=Lib.hid (show R=if 256<h-t+g then (135,0) else if G.any (fun x=>decide ((gcode.length:Int)≤x))=true then (137,0) else (0,h-t+g) from by rw[HR0.out,if_neg (by rw[if_neg (by decide),if_pos rfl];exact hr)])
  clear HR0;by_cases hb256:256<h-t+g
  ·have HR2:=Lib.hid (show R=(135,0) from by rw[HR.out,if_pos hb256])
   clear HR;go_wp2_with fail
   refine bodyPost_ret (v:=.tuple #[.int .i64 R.1,.int .i64 R.2]) ?_ rfl ⟨rfl,HB4.out⟩;simp[results,Try.results62,go_sem,HR2.out]
  have HR1:=Lib.hid (show R=if G.any (fun x=>decide ((gcode.length:Int)≤x))=true then (137,0) else (0,h-t+g) from by rw[HR.out,if_neg hb256])
  clear HR;go_wp2_with fail
  refine Hgo.out.mono ?_;rintro e w5 ⟨A,c,rfl,hown,hb5⟩;have HB5:=Lib.hid (HB4.out.trans (hb5.mono HB4.out.size));have HF5:=Lib.hid (HF4.out.below hb5 HF4.out.lt);have HG5:=Lib.hid hown;clear hown hb5 Hgo s0 s1 xl sl i0 i1 il f2 f3 fl;go_wp2_with fail
  go_loopw [70] (fun i wr=>∃j:Nat,j≤G.length∧i= .int .i64 j∧Hid (∀x∈G.take j,¬ (gcode.length:Int)≤x)∧Below w5.heap.size w5 wr) (fun i _=>G.length-(intOf i).toNat)
  case atStart=>exact ⟨0,Nat.zero_le _,rfl,Lib.hid (fun x hx=>by cases hx),Below.refl _ _⟩
  rename World=>w6;obtain ⟨j,hj,rfl,HJ,hB⟩:=hrel;by_cases hlt:j<G.length
  ·have g1:(j:Int)<(G.length:Int):=by omega
   have hO6:OwnI w6 w4.heap.size A G.length c G:=Own.below HG5.out hB (Nat.le_refl _);obtain ⟨ga',rfl,-,hga⟩:=own_some hO6 (by omega)
   have e0:=OwnI.at_ hO6 j hlt;have Htk:=Lib.hid (take_next G j hlt);have Hmem:=Lib.hid (List.getElem_mem hlt);generalize G[j]=x at*
   have f3:w6.cell? ⟨gf,3,none⟩=some (.slice gA gcode.length gc):=(HF5.out.below hB HF5.out.lt).cell 3;have fl:=(HF5.out.below hB HF5.out.lt).lt;have HB6:=Lib.hid hB;have HB06:=Lib.hid (HB5.out.trans (hB.mono HB5.out.size));clear hB hO6;by_cases hx:(gcode.length:Int)≤x
   ·have HR2:=Lib.hid (show R=(137,0) from by rw[HR1.out,if_pos (List.any_eq_true.2 ⟨x,Hmem.out,by simpa using hx⟩)])
    clear HR1;go_wp2_with fail
    refine bodyPost_ret (v:=.tuple #[.int .i64 R.1,.int .i64 R.2]) ?_ rfl ⟨rfl,HB06.out⟩;simp[results,Try.results62,go_sem,HR2.out]
   have HJ2:=Lib.hid (show ∀y∈G.take (j+1),¬ (gcode.length:Int)≤y from fun y hy=>by
    rw[Htk.out,List.mem_append] at hy;rcases hy with hy|hy
    ·exact HJ.out y hy
    rw[List.mem_singleton.1 hy];exact hx)
   go_wp2_with fail
   exact ⟨⟨j+1,by omega,by go_num,HJ2,HB6.out⟩,by simp[intOf];omega⟩
  obtain rfl:j=G.length:=by omega
  have HR2:=Lib.hid (show R=(0,h-t+g) from by
   rw[HR1.out,if_neg];intro h1;obtain ⟨x,hx,hx2⟩:=List.any_eq_true.1 h1;exact HJ.out x (by rw[List.take_length];exact hx) (by simpa using hx2))
  have HB06:=Lib.hid (HB5.out.trans (hB.mono HB5.out.size));clear HR1 hB;go_wp2_with fail
  refine bodyPost_ret (v:=.tuple #[.int .i64 R.1,.int .i64 R.2]) ?_ rfl ⟨rfl,HB06.out⟩;simp[results,Try.results62,go_sem,HR2.out]
 ·by_cases hr:t>h
  ·have HR2:=Lib.hid (show R=(134,0) from by rw[HR0.out,if_pos (by rw[if_neg h18,if_neg h5];exact hr),if_neg h18])
   clear HR0;go_wp2_with fail
   refine bodyPost_ret (v:=.tuple #[.int .i64 R.1,.int .i64 R.2]) ?_ rfl ⟨rfl,HB4.out⟩;simp[results,Try.results62,go_sem,HR2.out]
  have HR:=Lib.hid (show R=if 256<h-t+g then (135,0) else if G.any (fun x=>decide ((gcode.length:Int)≤x))=true then (137,0) else (0,h-t+g) from by rw[HR0.out,if_neg (by rw[if_neg h18,if_neg h5];exact hr)])
  clear HR0;by_cases hb256:256<h-t+g
  ·have HR2:=Lib.hid (show R=(135,0) from by rw[HR.out,if_pos hb256])
   clear HR;go_wp2_with fail
   refine bodyPost_ret (v:=.tuple #[.int .i64 R.1,.int .i64 R.2]) ?_ rfl ⟨rfl,HB4.out⟩;simp[results,Try.results62,go_sem,HR2.out]
  have HR1:=Lib.hid (show R=if G.any (fun x=>decide ((gcode.length:Int)≤x))=true then (137,0) else (0,h-t+g) from by rw[HR.out,if_neg hb256])
  clear HR;go_wp2_with fail
  refine Hgo.out.mono ?_;rintro e w5 ⟨A,c,rfl,hown,hb5⟩;have HB5:=Lib.hid (HB4.out.trans (hb5.mono HB4.out.size));have HF5:=Lib.hid (HF4.out.below hb5 HF4.out.lt);have HG5:=Lib.hid hown;clear hown hb5 Hgo s0 s1 xl sl i0 i1 il f2 f3 fl;go_wp2_with fail
  go_loopw [70] (fun i wr=>∃j:Nat,j≤G.length∧i= .int .i64 j∧Hid (∀x∈G.take j,¬ (gcode.length:Int)≤x)∧Below w5.heap.size w5 wr) (fun i _=>G.length-(intOf i).toNat)
  case atStart=>exact ⟨0,Nat.zero_le _,rfl,Lib.hid (fun x hx=>by cases hx),Below.refl _ _⟩
  rename World=>w6;obtain ⟨j,hj,rfl,HJ,hB⟩:=hrel;by_cases hlt:j<G.length
  ·have g1:(j:Int)<(G.length:Int):=by omega
   have hO6:OwnI w6 w4.heap.size A G.length c G:=Own.below HG5.out hB (Nat.le_refl _);obtain ⟨ga',rfl,-,hga⟩:=own_some hO6 (by omega)
   have e0:=OwnI.at_ hO6 j hlt;have Htk:=Lib.hid (take_next G j hlt);have Hmem:=Lib.hid (List.getElem_mem hlt);generalize G[j]=x at*
   have f3:w6.cell? ⟨gf,3,none⟩=some (.slice gA gcode.length gc):=(HF5.out.below hB HF5.out.lt).cell 3;have fl:=(HF5.out.below hB HF5.out.lt).lt;have HB6:=Lib.hid hB;have HB06:=Lib.hid (HB5.out.trans (hB.mono HB5.out.size));clear hB hO6;by_cases hx:(gcode.length:Int)≤x
   ·have HR2:=Lib.hid (show R=(137,0) from by rw[HR1.out,if_pos (List.any_eq_true.2 ⟨x,Hmem.out,by simpa using hx⟩)])
    clear HR1;go_wp2_with fail
    refine bodyPost_ret (v:=.tuple #[.int .i64 R.1,.int .i64 R.2]) ?_ rfl ⟨rfl,HB06.out⟩;simp[results,Try.results62,go_sem,HR2.out]
   have HJ2:=Lib.hid (show ∀y∈G.take (j+1),¬ (gcode.length:Int)≤y from fun y hy=>by
    rw[Htk.out,List.mem_append] at hy;rcases hy with hy|hy
    ·exact HJ.out y hy
    rw[List.mem_singleton.1 hy];exact hx)
   go_wp2_with fail
   exact ⟨⟨j+1,by omega,by go_num,HJ2,HB6.out⟩,by simp[intOf];omega⟩
  obtain rfl:j=G.length:=by omega
  have HR2:=Lib.hid (show R=(0,h-t+g) from by
   rw[HR1.out,if_neg];intro h1;obtain ⟨x,hx,hx2⟩:=List.any_eq_true.1 h1;exact HJ.out x (by rw[List.take_length];exact hx) (by simpa using hx2))
  have HB06:=Lib.hid (HB5.out.trans (hB.mono HB5.out.size));clear HR1 hB;go_wp2_with fail
  refine bodyPost_ret (v:=.tuple #[.int .i64 R.1,.int .i64 R.2]) ?_ rfl ⟨rfl,HB06.out⟩;simp[results,Try.results62,go_sem,HR2.out]
end Go.Proofs.Ytcmpmhlcfalbhaa
