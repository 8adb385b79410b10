import Derived.Test.YtcmpmhlcfalbhaaV15
import Derived.Test.YtcmpmhlcfalbhaaV20
import Derived.Test.YtcmpmhlcfalbhaaV16
import Derived.Test.YtcmpmhlcfalbhaaV11
import Derived.Test.YtcmpmhlcfalbhaaV14
import Derived.BigQuiet
import Derived.Deep.CutRange
namespace Go.Proofs.Ytcmpmhlcfalbhaa
open Go.RowKit
def LookM (w:World) (gL:Nat) (p:PrgM) (f N gh gw:Nat):Prop:=Blk w gL 126 #[.int .i64 p.mem,.slice p.AD p.data.length p.cD,.slice p.AF p.fs.length p.cF,.int .i64 (f:Int),.slice (some ⟨gh,0,none⟩) N N,.slice (some ⟨gw,0,none⟩) N N]
structure TakenPost (P:Prg) (f n:Nat) (i:Ins) (x:Int) (gh gw N B:Nat) (h:List Int) (ws:List Bool) (w:World) (e:Ending) (w':World):Prop where
 out:∃(E:Int) (h':List Int) (ws':List Bool),e= .returned (.int .i64 E)∧OwnI w' B (some ⟨gh,0,none⟩) N N h'∧OwnL w' B (some ⟨gw,0,none⟩) N N ws'∧Only (fun b=>b=gh∨b=gw) w w'∧
  ((E=0∧∃b,standI P f n i x=(0,b)∧spread b (goN i n) h ws=some (h',ws'))∨(E≠0∧((∃b,standI P f n i x=(E,b))∨(E=136∧∃b,standI P f n i x=(0,b)∧spread b (goN i n) h ws=none))))
theorem TakenPost.bad {P:Prg} {f n:Nat} {i:Ins} {x E b:Int} {gh gw N B:Nat} {h:List Int} {ws:List Bool} {w w':World} (hI:OwnI w B (some ⟨gh,0,none⟩) N N h) (hW:OwnL w B (some ⟨gw,0,none⟩) N N ws) (hb:Below w.heap.size w w') (hE:E≠0) (hs:standI P f n i x=(E,b)):
  TakenPost P f n i x gh gw N B h ws w (.returned (.int .i64 E)) w':=
 ⟨E,h,ws,rfl,Own.below hI hb (Nat.le_refl _),Own.below hW hb (Nat.le_refl _),Only.of_fresh hb,.inr ⟨hE,.inl ⟨b,hs⟩⟩⟩
set_option maxRecDepth 100000 in
set_option maxHeartbeats 4000000 in
theorem taken_any (p:PrgM) (f n gL gh gw N B:Nat) (h:List Int) (ws:List Bool) (x:Int) (i:Ins) (w:World) (hp:PrgAt w p) (hg:Good p.plain) (hins:p.plain.ins f n=some i) (hL:LookM w gL p f N gh gw)
  (hI:OwnI w B (some ⟨gh,0,none⟩) N N h) (hW:OwnL w B (some ⟨gw,0,none⟩) N N ws) (hlN:p.plain.len f=N) (hlh:h.length=N) (hlw:ws.length=N) (hx:h[n]?=some x) (hx0: -1≤x) (hx1:x≤256):
  Calls Try.prog 72 #[.pointer (some ⟨gL,0,none⟩),.int .i64 (n:Int)] w (TakenPost p.plain f n i x gh gw N B h ws w):=by
 unfold LookM at hL
 have hne:gh≠gw:=fun e=>own_ne hI hW (by decide) gh rfl (by rw[e];rfl)
 have hfac:=ins_facts hg.chk hins
 have hgp:=hfac.goes
 obtain ⟨F,k,gg,e1,e2,hgf,hi⟩:=PrgM.spot_some hins
 obtain rfl:f=F:=by omega
 obtain rfl:n=k:=by omega
 clear e1 e2
 have hN4:N≤4096:=by
  have h1:=(good_fn hg.chk (show gg.plain∈p.plain.fs from List.mem_map.2 ⟨gg,List.mem_of_getElem? hgf,rfl⟩)).c1
  change gg.code.length≤4096 at h1
  rw[←hlN,PrgM.len_plain hgf];exact h1
 have hnN:n<N:=by rw[←hlN];exact Prg.ins_lt hins
 obtain ⟨w1,hw1⟩:∃w1,w1=w.alloc (.cells #[.int .i64 (f:Int),.int .i64 (n:Int)] 35):=⟨_,rfl⟩
 obtain ⟨gS,hgS⟩:∃g,g=w.heap.size:=⟨_,rfl⟩
 have hb1:Below w.heap.size w w1:=by rw[hw1];exact (Below.refl _ _).alloc (Nat.le_refl _) _
 have hS1:Blk w1 gS 35 #[.int .i64 (f:Int),.int .i64 (n:Int)]:=by rw[hw1,hgS];exact Blk.new _ _ _
 have hL1:Blk w1 gL 126 #[.int .i64 p.mem,.slice p.AD p.data.length p.cD,.slice p.AF p.fs.length p.cF,.int .i64 (f:Int),.slice (some ⟨gh,0,none⟩) N N,.slice (some ⟨gw,0,none⟩) N N]:=Blk.below hL hb1 hL.lt
 have hSL:gL<gS:=by rw[hgS];exact hL.lt
 have hio:=((hp.fn hgf).choose_spec.choose_spec.2.2.2.2.2.2.1.ins hi).choose_spec.choose_spec.2.2.2.2.1
 have Hio:=Lib.hid hio
 have HP1:=Lib.hid (hp.below hb1)
 have HI1:=Lib.hid (show OwnI w1 B (some ⟨gh,0,none⟩) N N h from Own.below hI hb1 (Nat.le_refl _))
 have HW1:=Lib.hid (show OwnL w1 B (some ⟨gw,0,none⟩) N N ws from Own.below hW hb1 (Nat.le_refl _))
 have HL1:=Lib.hid hL1
 have HS1:=Lib.hid hS1
 have HB1:=Lib.hid hb1
 have HI:=Lib.hid hI
 have HW:=Lib.hid hW
 have Hw1:=Lib.hid hw1
 have HgS:=Lib.hid hgS
 have Hfac:=Lib.hid hfac
 have Hgp:=Lib.hid hgp
 have Hins:=Lib.hid hins
 have HlN:=Lib.hid hlN
 have Hll:=Lib.hid (show h.length=N∧ws.length=N from ⟨hlh,hlw⟩)
 have Hx:=Lib.hid hx
 have l1:w.cell? ⟨gL,1+2,none⟩=some (.int .i64 (f:Int)):=hL.cell 3
 have ll:=hL.lt
 obtain ⟨op,a⟩:=i
 clear hp hg hI hW hb1 hS1 hL1 hw1 hgS hfac hgp hins hgf hi hio hlN hlh hlw hx hSL hL
 go_enter Try.func72,Try.ntmps72
 go_upto_region 2 with (fail)
 rw[←Hw1.out, ←HgS.out]
 clear l1 ll
 go_cut [6,7] from 23 to 31 (fun s t wx=>∃gi,s= .pointer (some ⟨gi,0,none⟩)∧t= .bool true∧Blk wx gi 45 #[.int .i64 op,.int .i64 a]∧Below w1.heap.size w1 wx∧w1.heap.size≤gi)
 case first=>
  have hL:=HL1.out;have hS:=HS1.out;have hAt:=Lib.hid (fun w' (hb:Below w1.heap.size w1 w')=>refAt_any p f n w' (HP1.out.below hb));rw[Hins.out] at hAt;have hSw:(fun w'=>(w'.cell? ⟨gL,0,none⟩=some (.int .i64 p.mem)∧w'.cell? ⟨gL,1,none⟩=some (.slice p.AD p.data.length p.cD)∧w'.cell? ⟨gL,2,none⟩=some (.slice p.AF p.fs.length p.cF)∧gL<w'.heap.size)∧(w'.cell? ⟨gS,0,none⟩=some (.int .i64 (f:Int))∧w'.cell? ⟨gS,1,none⟩=some (.int .i64 (n:Int))∧gS<w'.heap.size)∧Below w1.heap.size w1 w') w1.drew:=⟨⟨hL.cell 0,hL.cell 1,hL.cell 2,hL.lt⟩,⟨hS.cell 0,hS.cell 1,hS.lt⟩,(Below.refl _ w1).drew⟩;clear hL hS;obtain ⟨SC,hSCd⟩:∃S:World→Prop,S=fun w'=>(w'.cell? ⟨gL,0,none⟩=some (.int .i64 p.mem)∧w'.cell? ⟨gL,1,none⟩=some (.slice p.AD p.data.length p.cD)∧w'.cell? ⟨gL,2,none⟩=some (.slice p.AF p.fs.length p.cF)∧gL<w'.heap.size)∧(w'.cell? ⟨gS,0,none⟩=some (.int .i64 (f:Int))∧w'.cell? ⟨gS,1,none⟩=some (.int .i64 (n:Int))∧gS<w'.heap.size)∧Below w1.heap.size w1 w':=⟨_,rfl⟩;have hSC:SC w1.drew:=by rw[hSCd];exact hSw
  have HSC:=Lib.hid (show SC w1.drew from hSC)
  have HSd:=Lib.hid hSCd;clear hSC hSCd;refine region_heldT 12 SC (by kernel_rfl) (by decide) ?_
  refine hwA 0 (.pointer (some ⟨gL,0,none⟩)) HSC.out ?_;simp only[Act.put,List.setIfInBounds_toArray];refine hwA 1 (.pointer (some ⟨gL,0,none⟩)) HSC.out ?_;simp only[Act.put];refine hwA 2 (.pointer (some ⟨gL,0,none⟩)) HSC.out ?_;simp only[Act.put];refine hwA 3 (.agg #[.int .i64 p.mem,.slice p.AD p.data.length p.cD,.slice p.AF p.fs.length p.cF]) HSC.out ?_;simp only[Act.put];refine hwA 4 (.agg #[.int .i64 (f:Int),.int .i64 (n:Int)]) HSC.out ?_;simp only[Act.put]
  have HSt:=Lib.hid (show ∀wa wb:World,SC wa→Below wa.heap.size wa wb→SC wb from fun wa wb h hb=>by
   rw[HSd.out] at h ⊢;obtain ⟨⟨l0,l1,l2,ll⟩,⟨s0,s1,sl⟩,hB⟩:=h;obtain ⟨hc,-⟩:=bcell hb;have hz:=hb.size;exact ⟨⟨(hc _ _ ll).trans l0,(hc _ _ ll).trans l1,(hc _ _ ll).trans l2,by omega⟩,⟨(hc _ _ sl).trans s0,(hc _ _ sl).trans s1,by omega⟩,hB.trans (hb.mono hB.size)⟩)
  refine headW_two 5 9 rfl rfl (by decide) (by decide) (by kernel_rfl) (by kernel_rfl) (by kernel_rfl) (fun K hK=>?_) (fun K hK=>?_)
  ·go_simp;refine (hAt.out w1.drew (Below.refl _ w1).drew).mono ?_;rintro e w2 ⟨rfl,hb2⟩;dsimp only[insV,Option.isSome];have HB2:=Lib.hid (show Below w1.heap.size w1 w2 from ((Below.refl _ w1).drew).trans hb2)
   have HS2:=Lib.hid (HSt.out _ _ HSC.out hb2);refine hK.out _ _ HS2.out (fun hHeld=>?_);clear hK K hHeld;refine hwA 6 (.tuple #[.agg #[.int .i64 op,.int .i64 a],.bool true]) HS2.out ?_;simp only[Act.put];refine hwA 7 (.agg #[.int .i64 op,.int .i64 a]) HS2.out ?_;simp only[Act.put];refine hwA 8 (.bool true) HS2.out ?_;simp only[Act.put];refine hwO 9 fun K hK=>?_;go_simp;refine hK.out _ _ (HSt.out _ _ HS2.out ((Below.refl _ w2).alloc (Nat.le_refl _) _)) (fun hHeld=>?_);clear hK K hHeld;refine hwO 10 fun K hK=>?_;go_simp;refine hK.out _ _ (HSt.out _ _ HS2.out ((Below.refl _ w2).alloc (Nat.le_refl _) _)) (fun hHeld=>?_);clear hK K hHeld;refine hwO 11 fun K hK=>?_;go_simp;refine hK.out _ _ (HSt.out _ _ HS2.out ((Below.refl _ w2).alloc (Nat.le_refl _) _)) (fun hHeld=>?_);clear hK K hHeld;refine fun _=>⟨by kernel_rfl,?_⟩
   simp only[List.drop_succ_cons,List.drop_zero];refine (‹∀(a':Act) (w':World),Met _ a' w'→_› _ _ ?_);go_meet;case rel=>exact ⟨w2.heap.size,rfl,rfl,Blk.new w2 _ _,HB2.out.alloc HB2.out.size _,HB2.out.size⟩
  ·go_simp;have HB2:=Lib.hid (show Below w1.heap.size w1 (w1.alloc (.cells #[.int .i64 0,.int .i64 0] 45)).drew from ((Below.refl _ w1).alloc (Nat.le_refl _) _).drew)
   have hI2:Blk (w1.alloc (.cells #[.int .i64 0,.int .i64 0] 45)).drew w1.heap.size 45 #[.int .i64 0,.int .i64 0]:=Blk.new w1.drew _ _;have HI2:=Lib.hid hI2;have HS2:=Lib.hid (show SC (w1.alloc (.cells #[.int .i64 0,.int .i64 0] 45)).drew from HSt.out _ _ HSC.out ((Below.refl _ w1.drew).alloc (Nat.le_refl _) (.cells #[.int .i64 0,.int .i64 0] 45)))
   refine hK.out _ _ HS2.out (fun hHeld=>?_);clear hK K hHeld hI2;generalize (w1.alloc (.cells #[.int .i64 0,.int .i64 0] 45)).drew=w2 at*
   obtain ⟨gi,hgi⟩:∃g,g=w1.heap.size:=⟨_,rfl⟩;rw[←hgi] at HI2;have Hgi:=Lib.hid hgi;rw[←hgi];clear hgi;refine hwO 5 fun K hK=>?_;have hS2:=HS2.out;rw[HSd.out] at hS2;obtain ⟨⟨l0,l1,l2,ll⟩,⟨s0,s1,sl⟩,hB⟩:=hS2;go_simp;refine (hAt.out w2 HB2.out).mono ?_;rintro e w3 ⟨rfl,hb3⟩;dsimp only[insV,Option.isSome];have HB3:=Lib.hid (HB2.out.trans (hb3.mono HB2.out.size));have HS3:=Lib.hid (HSt.out _ _ HS2.out hb3);have HI3:=Lib.hid (HI2.out.below hb3 HI2.out.lt);refine hK.out _ _ HS3.out (fun hHeld=>?_);clear hK K hHeld l0 l1 l2 ll s0 s1 sl hB hb3;refine hwA 6 (.tuple #[.agg #[.int .i64 op,.int .i64 a],.bool true]) HS3.out ?_;simp only[Act.put];refine hwA 7 (.agg #[.int .i64 op,.int .i64 a]) HS3.out ?_;simp only[Act.put];refine hwA 8 (.bool true) HS3.out ?_;simp only[Act.put];refine hwO 10 fun K hK=>?_;have i0:=HI3.out.cell 0;have i1:=HI3.out.cell 1;have if0:=HI3.out.frozen 0;have if1:=HI3.out.frozen 1;have il:=HI3.out.lt
   have HS4:SC ((w3.setCell ⟨gi,0,none⟩ (.int .i64 op)).setCell ⟨gi,1,none⟩ (.int .i64 a)):=by
    have h:=HS3.out;rw[HSd.out] at h ⊢;obtain ⟨⟨l0,l1,l2,ll⟩,⟨s0,s1,sl⟩,hB⟩:=h;have hb:Below w1.heap.size w3 ((w3.setCell ⟨gi,0,none⟩ (.int .i64 op)).setCell ⟨gi,1,none⟩ (.int .i64 a)):=((Below.refl _ _).setCell (by rw[←Hgi.out];exact Nat.le_refl _) _).setCell (by rw[←Hgi.out];exact Nat.le_refl _) _
    have h1:=HL1.out.lt;have h2:=HS1.out.lt;obtain ⟨hc,-⟩:=bcell hb;have hz:=hb.size;exact ⟨⟨(hc _ _ h1).trans l0,(hc _ _ h1).trans l1,(hc _ _ h1).trans l2,by omega⟩,⟨(hc _ _ h2).trans s0,(hc _ _ h2).trans s1,by omega⟩,hB.trans hb⟩
   go_simp;refine hK.out _ _ HS4 (fun hHeld=>?_);clear hK K hHeld;refine hwO 11 fun K hK=>?_;go_simp;refine hK.out _ _ HS4 (fun hHeld=>?_);clear hK K hHeld;refine fun _=>⟨by kernel_rfl,?_⟩
   simp only[List.drop_succ_cons,List.drop_zero];refine (‹∀(a':Act) (w':World),Met _ a' w'→_› _ _ ?_);go_meet;case rel=>exact ⟨gi,rfl,rfl,(HI3.out.set_ 0 _).set_ 1 _,(HB3.out.setCell (by rw[←Hgi.out];exact Nat.le_refl _) _).setCell (by rw[←Hgi.out];exact Nat.le_refl _) _,by rw[←Hgi.out];exact Nat.le_refl _⟩
 case rest=>
  rename World=>w2;obtain ⟨gi,rfl,rfl,hI2,hb12,hgi⟩:=hcut;have hL2:=HL1.out.below hb12 HL1.out.lt;have hS2:=HS1.out.below hb12 HS1.out.lt;have HP2:=Lib.hid (HP1.out.below hb12);have hO2:=Own.below HI1.out hb12 (Nat.le_refl _);have HW2:=Lib.hid (show OwnL w2 B (some ⟨gw,0,none⟩) N N ws from Own.below HW1.out hb12 (Nat.le_refl _))
  have HB2:=Lib.hid (show Below w.heap.size w w2 from HB1.out.trans (hb12.mono HB1.out.size))
  have c2:w2.cell? ⟨gh,n,none⟩=some (.int .i64 x):=by
   have h1:=OwnI.at_ hO2 n (by rw[Hll.out.1];exact hnN)
   rw[(List.getElem?_eq_some_iff.1 Hx.out).2] at h1;exact h1
  have cl2:=(OwnI.room hO2 n (by rw[Hll.out.1];exact hnN)).2
  have l4:w2.cell? ⟨gL,2+2,none⟩=some (.slice (some ⟨gh,0,none⟩) N N):=hL2.cell 4;have ll:=hL2.lt;have gnN:(n:Int)<(N:Int):=by omega
  have X0:∀v:BW w2.heap.size w2,v.w.cell? ⟨gL,0,none⟩=some (.int .i64 p.mem):=fun v=>(v.blk hL2 hL2.lt).cell 0;have X1:∀v:BW w2.heap.size w2,v.w.cell? ⟨gL,1,none⟩=some (.slice p.AD p.data.length p.cD):=fun v=>(v.blk hL2 hL2.lt).cell 1;have X2:∀v:BW w2.heap.size w2,v.w.cell? ⟨gL,2,none⟩=some (.slice p.AF p.fs.length p.cF):=fun v=>(v.blk hL2 hL2.lt).cell 2;have X3:∀v:BW w2.heap.size w2,v.w.cell? ⟨gS,0,none⟩=some (.int .i64 (f:Int)):=fun v=>(v.blk hS2 hS2.lt).cell 0;have X4:∀v:BW w2.heap.size w2,v.w.cell? ⟨gS,1,none⟩=some (.int .i64 (n:Int)):=fun v=>(v.blk hS2 hS2.lt).cell 1;have HL2:=Lib.hid hL2;have HI2:=Lib.hid hI2;have HO2:=Lib.hid (show OwnI w2 B (some ⟨gh,0,none⟩) N N h from hO2)
  clear hL2 hS2 hO2 hI2 hb12 HL1 HS1 HP1 HI1 HW1 HB1;obtain ⟨t,g,hT⟩:∃t g,takesL p.plain f n=(t,g):=⟨_,_,rfl⟩;have hb:=Hfac.out;have ht0:=hb.t0;have ht1:=hb.t1;have hg0:=hb.g0;have hg1:=hb.g1;rw[hT] at ht0 ht1 hg0 hg1;dsimp only at ht0 ht1 hg0 hg1
  have Hcall:Hid (∀v:BW w2.heap.size w2,Calls Try.prog 25 #[.agg #[.int .i64 p.mem,.slice p.AD p.data.length p.cD,.slice p.AF p.fs.length p.cF],.agg #[.int .i64 (f:Int),.int .i64 (n:Int)]] v.w fun e w'=>e= .returned (.tuple #[.int .i64 t,.int .i64 g])∧Below v.w.heap.size v.w w'):=Lib.hid fun v=>by
   have h:=refTakes_any p f n v.w (HP2.out.below v.h);rw[Hfac.out.same,hT] at h;exact h
  have HT:=Lib.hid hT;clear hT hb;go_upto_region 4 with (fail)
  refine region_inB w2.heap.size w2 (Below.refl _ _) (by kernel_rfl) (by kernel_rfl) ?_
  repeat (go_big_quiet_step (with_reducible exact Calls.inBat _ (Hcall.out _) (Nat.le_refl _)))
  refine wpQuiet_nil ?_;intro w3 hb23;have HL3:=Lib.hid (HL2.out.below hb23 HL2.out.lt);have hI3:=HI2.out.below hb23 HI2.out.lt;have HO3:=Lib.hid (show OwnI w3 B (some ⟨gh,0,none⟩) N N h from Own.below HO2.out hb23 (Nat.le_refl _))
  have HW3:=Lib.hid (show OwnL w3 B (some ⟨gw,0,none⟩) N N ws from Own.below HW2.out hb23 (Nat.le_refl _))
  have HB3:=Lib.hid (HB2.out.trans (hb23.mono HB2.out.size));have i0:w3.cell? ⟨gi,0,none⟩=some (.int .i64 op):=hI3.cell 0;have i1:w3.cell? ⟨gi,1,none⟩=some (.int .i64 a):=hI3.cell 1;have il:=hI3.lt;clear hb23 hI3 X0 X1 X2 X3 X4 Hcall HL2 HI2 HO2 HW2 HB2 HP2 c2 cl2 l4 ll hgi;obtain ⟨W,hW⟩:∃W,W=wantsL p.plain f n ⟨op,a⟩:=⟨_,rfl⟩;have hcp:=Hfac.out.copy;dsimp only at hcp
  have hWv:(op=5→W=a+1∧0≤a∧a<256)∧(op≠5→W=t):=by
   rw[hW];refine ⟨fun h5=>⟨?_,(hcp h5).2⟩,fun h5=>?_⟩
   ·unfold wantsL;rw[if_pos h5]
   unfold wantsL;rw[if_neg h5,HT.out]
  have HWd:=Lib.hid hW;clear hW hcp;go_upto_if 51 with (fail)
  go_cut [11] from 49 to 54 (fun s wx=>s= .int .i64 W∧wx=w3)
  case first=>
   by_cases h5:op=5
   ·obtain ⟨hW,ha0,ha1⟩:=hWv.1 h5;have wr1:IntKind.i64.wrap (a+1)=a+1:=by rw[IntKind.wrap_i64];omega
    clear hWv;subst h5 hW;go_wp2_with fail
    go_meet;case rel=>exact ⟨rfl,rfl⟩
   ·have hW:=hWv.2 h5;have h5b:(op==5)=false:=by simpa using h5
    clear hWv;subst hW;go_wp2_with fail
    go_meet;case rel=>exact ⟨rfl,rfl⟩
  case rest=>
  rename World=>wx;obtain ⟨rfl,hwx⟩:=hcut;obtain rfl:w3=wx:=hwx.symm;clear hwx
  have hWb:0≤W∧W≤256:=by
   by_cases h5:op=5
   ·have:=hWv.1 h5;omega
   have:=hWv.2 h5;omega
  clear hWv;by_cases h18:op=18
  ·subst h18;have hret:=Hfac.out.ret rfl;rw[HT.out] at hret;dsimp only at hret;by_cases hx:x=t
   ·subst hx;have HF:=Lib.hid (show TakenPost p.plain f n ⟨18,a⟩ x gh gw N B h ws w (.returned (.int .i64 0)) _ from ⟨0,h,ws,rfl,HO3.out,HW3.out,Only.of_fresh HB3.out,.inl ⟨rfl,0,standI_retOk rfl (by rw[HT.out];exact hret) hret.1,by rw[goN_ret rfl];rfl⟩⟩)
    clear hret;go_wp2_with fail
    go_ret
    exact HF.out
   have HF:=Lib.hid (show TakenPost p.plain f n ⟨18,a⟩ x gh gw N B h ws w (.returned (.int .i64 138)) _ from TakenPost.bad (b:=0) HI.out HW.out HB3.out (by decide) (standI_ret rfl (by rw[←hret.1];exact hx)))
   have hx1:(x==t)=false:=by simpa using hx
   have hx2:(x != t)=true:=by simpa using hx
   clear hret;go_wp2_with fail
   go_ret
   exact HF.out
  have o18:(op==18)=false:=by simpa using h18
  by_cases hu:x<W
  ·have HF:=Lib.hid (TakenPost.bad (P:=p.plain) (f:=f) (n:=n) (i:=⟨op,a⟩) (b:=0) HI.out HW.out HB3.out (by decide) (standI_under h18 (by rw[←HWd.out];exact hu)))
   go_wp2_with fail
   go_ret
   exact HF.out
  have wr1:IntKind.i64.wrap (x-t)=x-t:=by rw[IntKind.wrap_i64];omega
  have wr2:IntKind.i64.wrap (x-t+g)=x-t+g:=by rw[IntKind.wrap_i64];omega
  by_cases hov:256<x-t+g
  ·have HF:=Lib.hid (TakenPost.bad (P:=p.plain) (f:=f) (n:=n) (i:=⟨op,a⟩) (x:=x) (b:=0) HI.out HW.out HB3.out (by decide) (standI_over h18 (by rw[←HWd.out];exact hu) (by rw[HT.out];exact hov)))
   go_wp2_with fail
   go_ret
   exact HF.out
  obtain ⟨b,hbd⟩:∃b,b=x-t+g:=⟨_,rfl⟩;have Hway:=Lib.hid (ways_any ⟨op,a⟩ n w3 Hio.out (by omega))
  obtain ⟨G,hG⟩:∃G,G=goesL ⟨op,a⟩ n:=⟨_,rfl⟩;rw[←hG] at Hway;dsimp only at Hway;have HG:=Lib.hid hG;have Hbd:=Lib.hid hbd;have hGl:G.length≤2:=by rw[hG];exact goesL_len _ _
  have HGn:=Lib.hid (show ∀y∈G,0≤y from fun y hy=>Hgp.out y (by rw[←HG.out];exact hy))
  clear hG hbd;go_wp2_with fail
  refine Hway.out.mono ?_;rintro e w4 ⟨A4,c4,rfl,hO4,hb34⟩;rw[←Hbd.out];clear wr1 wr2;have HL4:=Lib.hid (HL3.out.below hb34 HL3.out.lt);have HO4:=Lib.hid (show OwnI w4 B (some ⟨gh,0,none⟩) N N h from Own.below HO3.out hb34 (Nat.le_refl _))
  have HW4:=Lib.hid (show OwnL w4 B (some ⟨gw,0,none⟩) N N ws from Own.below HW3.out hb34 (Nat.le_refl _))
  have HB4:=Lib.hid (HB3.out.trans (hb34.mono HB3.out.size));have HG4:=Lib.hid hO4;have HA4:=Lib.hid (show ∀b,A4.map (·.block)=some b→w3.heap.size≤b from fun b e=>(Own.row hO4 b e).1)
  have Hz3:=Lib.hid (show gh<w3.heap.size∧gw<w3.heap.size from ⟨(Own.row HO3.out gh rfl).2,(Own.row HW3.out gw rfl).2⟩)
  clear hb34 hO4 Hway i0 i1 il HL3 HO3 HW3 HB3;go_wp2_with fail
  go_loopw [14] (fun i wr=>∃j:Nat,j≤G.length∧i= .int .i64 (j:Int)∧Hid (∀y∈G.take j,y<(N:Int))∧Below w4.heap.size w4 wr) (fun i _=>G.length-(intOf i).toNat)
  case atStart=>exact ⟨0,Nat.zero_le _,rfl,Lib.hid (fun y hy=>by cases hy),Below.refl _ _⟩
  case round=>
  rename World=>wr;obtain ⟨j,hj,rfl,HJ,hB⟩:=hrel;have HLr:=HL4.out.below hB HL4.out.lt;have hGr:=Own.below HG4.out hB (Nat.le_refl _);have HBr:=Lib.hid (HB4.out.trans (hB.mono HB4.out.size));by_cases hlt:j<G.length
  ·have g1:(j:Int)<(G.length:Int):=by omega
   obtain ⟨ga,rfl,hga3,hgal⟩:=own_some hGr (by omega)
   have c3:=OwnI.at_ hGr j hlt;obtain ⟨y,hy⟩:∃y,G[j]=y:=⟨_,rfl⟩;rw[hy] at c3;have hyG:G[j]?=some y:=by rw[List.getElem?_eq_getElem hlt,hy]
   have l4:wr.cell? ⟨gL,2+2,none⟩=some (.slice (some ⟨gh,0,none⟩) N N):=HLr.cell 4;have ll:=HLr.lt;have HyG:=Lib.hid hyG;have HBw:=Lib.hid hB;clear HLr hGr hB hy hyG;by_cases hyN:(N:Int)≤y
   ·have hyd:decide ((N:Int)≤y)=true:=by simpa using hyN
    have HF:=Lib.hid (fun w' (hb:Below wr.heap.size wr w')=>TakenPost.bad (P:=p.plain) (f:=f) (n:=n) (i:=⟨op,a⟩) (x:=x) (E:=137) (b:=0) HI.out HW.out (HBr.out.trans (hb.mono HBr.out.size)) (by decide) (standI_end (y:=y) h18 (by rw[←HWd.out];omega) (by rw[HT.out];dsimp only;omega) (by rw[←HG.out];exact List.mem_of_getElem? HyG.out) (by rw[HlN.out];exact hyN)))
    go_wp2_with fail
    go_quiet (fail)
    go_wp2_with fail
    go_ret
    exact HF.out _ (below_drewN (Below.refl _ wr) _)
   have hyd:decide ((N:Int)≤y)=false:=by simpa using hyN
   have HJ2:=Lib.hid (show ∀z∈G.take (j+1),z<(N:Int) from fun z hz=>by
    rw[List.take_add_one,HyG.out] at hz;rcases List.mem_append.1 hz with hz|hz
    ·exact HJ.out z hz
    rw[List.mem_singleton.1 hz];omega)
   go_wp2_with fail
   go_quiet (fail)
   go_wp2_with fail
   exact ⟨⟨j+1,by omega,by go_num,HJ2,below_drewN HBw.out _⟩,by simp[intOf];omega⟩
  obtain rfl:j=G.length:=by omega
  have hJ:=HJ.out;rw[List.take_length] at hJ;have HJ2:=Lib.hid hJ;have HLr2:=Lib.hid HLr;have HOr:=Lib.hid (show OwnI wr B (some ⟨gh,0,none⟩) N N h from Own.below HO4.out hB (Nat.le_refl _))
  have HWr:=Lib.hid (show OwnL wr B (some ⟨gw,0,none⟩) N N ws from Own.below HW4.out hB (Nat.le_refl _))
  have HGr:=Lib.hid hGr;clear hJ HJ HLr hGr hB HL4 HO4 HW4 HG4 HB4;rename World=>w5;obtain ⟨gN,hgN⟩:∃l,l=goN ⟨op,a⟩ n:=⟨_,rfl⟩;have hgl:gN.length=G.length:=by rw[hgN,HG.out];unfold goN;rw[List.length_map]
  have HGe:=Lib.hid (show ∀j,(h:j<G.length)→∃y:Nat,gN[j]?=some y∧G[j]?=some (y:Int)∧y<N from fun j h=>by
   have h0:=HGn.out _ (List.getElem_mem h);have h1:=HJ2.out _ (List.getElem_mem h);refine ⟨(G[j]).toNat,?_,by rw[List.getElem?_eq_getElem h];congr 1;omega,by omega⟩
   rw[hgN];unfold goN;rw[←HG.out,List.getElem?_map,List.getElem?_eq_getElem h];rfl)
  have HgN:=Lib.hid hgN;have Hgl:=Lib.hid hgl
  have Hst:=Lib.hid (show standI p.plain f n ⟨op,a⟩ x=(0,b) from by
   have h:=standI_ok (P:=p.plain) (f:=f) (n:=n) (i:=⟨op,a⟩) (x:=x) h18 (by rw[←HWd.out];omega) (by rw[HT.out];dsimp only;omega) (fun y hy=>by have:=HJ2.out y (by rw[HG.out];exact hy);rw[HlN.out];omega)
   rw[HT.out] at h;dsimp only at h;rw[←Hbd.out] at h;exact h)
  clear hgN hgl;go_wp2_with fail
  go_loopw [15] (fun i wr=>∃j:Nat,j≤G.length∧i= .int .i64 (j:Int)∧Hid (∀y∈gN.take j,h[y]?=some (-1)∨h[y]?=some b)∧Below w5.heap.size w5 wr) (fun i _=>G.length-(intOf i).toNat)
  case atStart=>exact ⟨0,Nat.zero_le _,rfl,Lib.hid (fun y hy=>by cases hy),Below.refl _ _⟩
  case round=>
  rename World=>wr;obtain ⟨j,hj,rfl,HJ,hB⟩:=hrel;have HLr:=HLr2.out.below hB HLr2.out.lt;have hGr:=Own.below HGr.out hB (Nat.le_refl _);have hOr:=Own.below HOr.out hB (Nat.le_refl _);have HBr2:=Lib.hid (HBr.out.trans (hB.mono HBr.out.size));by_cases hlt:j<G.length
  ·have g1:(j:Int)<(G.length:Int):=by omega
   obtain ⟨ga,rfl,hga3,hgal⟩:=own_some hGr (by omega)
   obtain ⟨y,hy1,hy2,hyN⟩:=HGe.out j hlt;have c3:=OwnI.at_ hGr j hlt;rw[(List.getElem?_eq_some_iff.1 hy2).2] at c3;obtain ⟨u,hu2⟩:∃u,h[y]?=some u:=⟨_,List.getElem?_eq_getElem (by rw[Hll.out.1];exact hyN)⟩
   have cy:=OwnI.at_ hOr y (by rw[Hll.out.1];exact hyN)
   rw[(List.getElem?_eq_some_iff.1 hu2).2] at cy;have cl4:=(OwnI.room hOr y (by rw[Hll.out.1];exact hyN)).2
   have l4:wr.cell? ⟨gL,2+2,none⟩=some (.slice (some ⟨gh,0,none⟩) N N):=HLr.cell 4;have ll:=HLr.lt;have gyN:(y:Int)<(N:Int):=by omega
   have Hy:=Lib.hid (And.intro hy1 hy2);have Hu2:=Lib.hid hu2;have HBw:=Lib.hid hB;clear HLr hGr hOr hB hy1 hy2 hu2;by_cases hu1:u= -1
   ·subst hu1
    have HJ3:=Lib.hid (show ∀z∈gN.take (j+1),h[z]?=some (-1)∨h[z]?=some b from fun z hz=>by
     rw[List.take_add_one,Hy.out.1] at hz;rcases List.mem_append.1 hz with hz|hz
     ·exact HJ.out z hz
     rw[List.mem_singleton.1 hz];exact .inl Hu2.out)
    go_wp2_with fail
    go_quiet (fail)
    go_wp2_with fail
    exact ⟨⟨j+1,by omega,by go_num,HJ3,below_drewN HBw.out _⟩,by simp[intOf];omega⟩
   have hu1b:(u== -1)=false:=by simpa using hu1
   have hu1c:(u != -1)=true:=by simpa using hu1
   by_cases hub:u=b
   ·subst hub
    have HJ3:=Lib.hid (show ∀z∈gN.take (j+1),h[z]?=some (-1)∨h[z]?=some u from fun z hz=>by
     rw[List.take_add_one,Hy.out.1] at hz;rcases List.mem_append.1 hz with hz|hz
     ·exact HJ.out z hz
     rw[List.mem_singleton.1 hz];exact .inr Hu2.out)
    go_wp2_with fail
    go_quiet (fail)
    go_wp2_with fail
    exact ⟨⟨j+1,by omega,by go_num,HJ3,below_drewN HBw.out _⟩,by simp[intOf];omega⟩
   have hubb:(u==b)=false:=by simpa using hub
   have hubc:(u != b)=true:=by simpa using hub
   have hnone:spread b (goN ⟨op,a⟩ n) h ws=none:=spread_bad (u:=y) (by rw[←HgN.out];exact List.mem_of_getElem? Hy.out.1) (by rw[Hu2.out];intro e;injection e with e;exact hu1 e) (by rw[Hu2.out];intro e;injection e with e;exact hub e)
   have HF:=Lib.hid (fun w' (hb:Below wr.heap.size wr w')=>show TakenPost p.plain f n ⟨op,a⟩ x gh gw N B h ws w (.returned (.int .i64 136)) w' from
    ⟨136,h,ws,rfl,Own.below HI.out (HBr2.out.trans (hb.mono HBr2.out.size)) (Nat.le_refl _),Own.below HW.out (HBr2.out.trans (hb.mono HBr2.out.size)) (Nat.le_refl _),Only.of_fresh (HBr2.out.trans (hb.mono HBr2.out.size)),.inr ⟨by decide,.inr ⟨rfl,b,Hst.out,hnone⟩⟩⟩)
   clear hnone;go_wp2_with fail
   go_quiet (fail)
   go_wp2_with fail
   go_ret
   exact HF.out _ (below_drewN (Below.refl _ wr) _)
  obtain rfl:j=G.length:=by omega
  have hJ:=HJ.out;rw[←Hgl.out,List.take_length] at hJ;have HS0:=Lib.hid (SpL.start (b:=b) (l:=gN) (h:=h) (ws:=ws) hJ);have HL6:=Lib.hid HLr;have HO6:=Lib.hid (show OwnI wr B (some ⟨gh,0,none⟩) N N h from hOr)
  have HW6:=Lib.hid (show OwnL wr B (some ⟨gw,0,none⟩) N N ws from Own.below HWr.out hB (Nat.le_refl _))
  have HG6:=Lib.hid hGr;clear hJ HJ HLr hGr hOr hB HLr2 HOr HWr HGr HBr;rename World=>w6;have Hne:=Lib.hid (show gh≠gL∧gw≠gL∧True from ⟨Own.ne_blk HO6.out HL6.out (by decide) gh 0 rfl,Own.ne_blk HW6.out HL6.out (by decide) gw 0 rfl,trivial⟩)
  go_wp2_with fail
  go_loopw [16] (fun i wr=>∃(j:Nat) (h':List Int) (ws':List Bool),j≤G.length∧i= .int .i64 (j:Int)∧Hid (SpL b gN h ws j h' ws')∧OwnI wr B (some ⟨gh,0,none⟩) N N h'∧OwnL wr B (some ⟨gw,0,none⟩) N N ws'∧Only (fun q=>q=gh∨q=gw) w6 wr) (fun i _=>G.length-(intOf i).toNat)
  case atStart=>exact ⟨0,h,ws,Nat.zero_le _,rfl,HS0,HO6.out,HW6.out,Only.refl _ _⟩
  case round=>
  rename World=>wr;obtain ⟨j,h',ws',hj,rfl,HS,hO,hW,hOn⟩:=hrel;by_cases hlt:j<G.length
  ·have g1:(j:Int)<(G.length:Int):=by omega
   obtain ⟨y,hy1,hy2,hyN⟩:=HGe.out j hlt;have hlh:=HS.out.lh;have hlw:=HS.out.lw;rw[Hll.out.1] at hlh;rw[Hll.out.2] at hlw;obtain ⟨u,hu2⟩:∃u,h'[y]?=some u:=⟨_,List.getElem?_eq_getElem (by rw[hlh];exact hyN)⟩
   have cy:=OwnI.at_ hO y (by rw[hlh];exact hyN)
   rw[(List.getElem?_eq_some_iff.1 hu2).2] at cy;obtain ⟨cf4,cl4⟩:=OwnI.room hO y (by rw[hlh];exact hyN)
   have hLr:=HL6.out.only hOn (fun e=>e.elim (fun e=>Hne.out.1 e.symm) (fun e=>Hne.out.2.1 e.symm))
   have hGr:OwnI wr w3.heap.size A4 G.length c4 G:=Own.only HG6.out hOn (fun q o e=>by
    have h1:=HA4.out q (by rw[e];rfl)
    have h2:=Hz3.out;rintro (e2|e2)<;>omega)
   obtain ⟨ga,rfl,hga3,hgal⟩:=own_some hGr (by omega)
   have c3:=OwnI.at_ hGr j hlt;rw[(List.getElem?_eq_some_iff.1 hy2).2] at c3;have l4:wr.cell? ⟨gL,2+2,none⟩=some (.slice (some ⟨gh,0,none⟩) N N):=hLr.cell 4;have ll:=hLr.lt;have gyN:(y:Int)<(N:Int):=by omega
   have HOw:=Lib.hid hO;have HWw:=Lib.hid hW;have HOn:=Lib.hid hOn;have HLr:=Lib.hid hLr;have HGr:=Lib.hid hGr;have Hy:=Lib.hid (And.intro hy1 hy2);have Hu2:=Lib.hid hu2;clear hO hW hOn hLr hGr hy1 hy2 hu2;by_cases hu1:u= -1
   ·subst hu1;have HS1:=Lib.hid (HS.out.mark Hy.out.1 Hu2.out);go_upto_region 32 with (go_quiet (fail))
    obtain ⟨w7,hw7⟩:∃w7,w7=wr.drewN nq:=⟨_,rfl⟩;rw[←hw7];have hb7:Below wr.heap.size wr w7:=by rw[hw7];exact below_drewN (Below.refl _ _) _
    have HO7:=Lib.hid (show OwnI w7 B (some ⟨gh,0,none⟩) N N h' from Own.below HOw.out hb7 (Nat.le_refl _))
    have HW7:=Lib.hid (show OwnL w7 B (some ⟨gw,0,none⟩) N N ws' from Own.below HWw.out hb7 (Nat.le_refl _))
    have HL7:=Lib.hid (HLr.out.below hb7 HLr.out.lt);have HG7:=Lib.hid (show OwnI w7 w3.heap.size (some ⟨ga,0,none⟩) G.length c4 G from Own.below HGr.out hb7 (Nat.le_refl _))
    have HOn7:=Lib.hid (HOn.out.trans (Only.of_fresh (S:=fun q=>q=gh∨q=gw) hb7));clear hw7 hb7 l4 ll cy cf4 cl4 c3 hgal HOw HWw HLr HGr HOn;go_cut [] from 138 to 147 (fun wx=>OwnI wx B (some ⟨gh,0,none⟩) N N (h'.set y b)∧OwnL wx B (some ⟨gw,0,none⟩) N N ws'∧Only (fun q=>q=gh∨q=gw) w6 wx)
    case first=>
     have l4:w7.cell? ⟨gL,2+2,none⟩=some (.slice (some ⟨gh,0,none⟩) N N):=HL7.out.cell 4;have ll:=HL7.out.lt;have c3:=OwnI.at_ HG7.out j hlt;rw[(List.getElem?_eq_some_iff.1 Hy.out.2).2] at c3;obtain ⟨cf4,cl4⟩:=OwnI.room HO7.out y (by rw[hlh];exact hyN)
     have cy:=OwnI.at_ HO7.out y (by rw[hlh];exact hyN)
     have hgal:=(OwnI.room HG7.out j hlt).2
     have HQ:=Lib.hid (show OwnI (w7.setCell ⟨gh,y,none⟩ (.int .i64 b)).drew B (some ⟨gh,0,none⟩) N N (h'.set y b)∧OwnL (w7.setCell ⟨gh,y,none⟩ (.int .i64 b)).drew B (some ⟨gw,0,none⟩) N N ws'∧Only (fun q=>q=gh∨q=gw) w6 (w7.setCell ⟨gh,y,none⟩ (.int .i64 b)).drew from
      ⟨OwnI.put HO7.out y b,Own.fars HW7.out (fun e=>by injection e with e;exact hne e.symm) _,(HOn7.out.setCell (p:=⟨gh,y,none⟩) (.inl (.inl rfl)) _).trans (Only.of_fresh ((Below.refl _ _).drew))⟩)
     go_region
     all_goals
      go_wp2_with fail
      go_meet
      case rel=>exact HQ.out
    case rest=>
    rename World=>w8;obtain ⟨hO8,hW8,hOn8⟩:=hcut;clear HO7 HW7 HL7 HG7 HOn7;have HL8:=Lib.hid (HL6.out.only hOn8 (fun e=>e.elim (fun e=>Hne.out.1 e.symm) (fun e=>Hne.out.2.1 e.symm)))
    have HG8:=Lib.hid (show OwnI w8 w3.heap.size (some ⟨ga,0,none⟩) G.length c4 G from Own.only HG6.out hOn8 (fun q o e=>by
     have h1:=HA4.out q (by rw[e];rfl)
     have h2:=Hz3.out;rintro (e2|e2)<;>omega))
    have HO8:=Lib.hid hO8;have HW8:=Lib.hid hW8;have HOn8:=Lib.hid hOn8;clear hO8 hW8 hOn8;go_upto_region 33 with (fail)
    have l5:w8.cell? ⟨gL,2+3,none⟩=some (.slice (some ⟨gw,0,none⟩) N N):=HL8.out.cell 5;have ll:=HL8.out.lt;have c3:=OwnI.at_ HG8.out j hlt;rw[(List.getElem?_eq_some_iff.1 Hy.out.2).2] at c3;obtain ⟨cf4,cl4⟩:=OwnL.room HW8.out y (by rw[hlw];exact hyN)
    have cy:=OwnL.at_ HW8.out y (by rw[hlw];exact hyN)
    generalize ws'[y]'(by rw[hlw];exact hyN)=uy at cy
    have hgal:=(OwnI.room HG8.out j hlt).2
    have HQ:=Lib.hid (show OwnI (w8.setCell ⟨gw,y,none⟩ (.bool true)).drew B (some ⟨gh,0,none⟩) N N (h'.set y b)∧OwnL (w8.setCell ⟨gw,y,none⟩ (.bool true)).drew B (some ⟨gw,0,none⟩) N N (ws'.set y true)∧Only (fun q=>q=gh∨q=gw) w6 (w8.setCell ⟨gw,y,none⟩ (.bool true)).drew from
     ⟨Own.fars HO8.out (fun e=>by injection e with e;exact hne e) _,OwnL.put HW8.out y true,(HOn8.out.setCell (p:=⟨gw,y,none⟩) (.inl (.inr rfl)) _).trans (Only.of_fresh ((Below.refl _ _).drew))⟩)
    go_region
    all_goals
     go_wp2_with fail
     exact ⟨⟨j+1,_,_,by omega,by go_num,HS1,HQ.out⟩,by simp[intOf];omega⟩
   have hu1b:(u== -1)=false:=by simpa using hu1
   have HS1:=Lib.hid (HS.out.pass Hy.out.1 (by rw[Hu2.out];intro e;injection e with e;exact hu1 e))
   have hbd:=fun k=>below_drewN (Below.refl wr.heap.size wr) k;go_wp2_with fail
   go_quiet (fail)
   go_wp2_with fail
   exact ⟨⟨j+1,h',ws',by omega,by go_num,HS1,Own.below HOw.out (hbd _) (Nat.le_refl _),Own.below HWw.out (hbd _) (Nat.le_refl _),HOn.out.trans (Only.of_fresh (hbd _))⟩,by simp[intOf];omega⟩
  obtain rfl:j=G.length:=by omega
  have hfin:=HS.out;rw[←Hgl.out] at hfin;have HF:=Lib.hid (show TakenPost p.plain f n ⟨op,a⟩ x gh gw N B h ws w (.returned (.int .i64 0)) wr from ⟨0,h',ws',rfl,hO,hW,(Only.of_fresh HBr2.out).trans hOn,.inl ⟨rfl,b,Hst.out,by rw[←HgN.out];exact hfin.fin⟩⟩)
  clear hfin hO hW hOn;go_wp2_with fail
  go_ret
  exact HF.out
end Go.Proofs.Ytcmpmhlcfalbhaa
