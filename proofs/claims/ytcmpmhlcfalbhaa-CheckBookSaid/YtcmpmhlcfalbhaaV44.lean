import Derived.Test.YtcmpmhlcfalbhaaV11
import Derived.Test.YtcmpmhlcfalbhaaV43
namespace Go.Proofs.Ytcmpmhlcfalbhaa
open Go.RowKit
def RHgtPost (P:Prg) (f:Nat) (w:World) (e:Ending) (w':World):Prop:=
 Below w.heap.size w w'∧((∃h A c,HRuns P f (h0L (P.len f)) (w0L (P.len f)) (.inl h)∧h.length=P.len f∧e= .returned (.tuple #[.slice A h.length c,faultV none])∧OwnI w' w.heap.size A h.length c h)∨
  ∃er n,HRuns P f (h0L (P.len f)) (w0L (P.len f)) (.inr (er,n))∧er≠0∧e= .returned (.tuple #[.slice none 0 0,faultV (some (er,(f:Int),(n:Int)))]))
structure RInv (P:Prg) (f N:Nat) (h:List Int) (ws:List Bool):Prop where
 lh:h.length=N
 lw:ws.length=N
 run:∀R,HRuns P f h ws R→HRuns P f (h0L N) (w0L N) R
 bnd:∀(j:Nat) (x:Int),h[j]?=some x→ -1≤x∧x≤256
 wt:∀j:Nat,ws[j]?=some true→∃x,h[j]?=some x∧0≤x
theorem RInv.start {P:Prg} {f N:Nat} (hN:0<N):RInv P f N (h0L N) (w0L N):=by
 have h:=HInv.start (P:=P) (f:=f) hN;exact ⟨h.lh,h.lw,h.run,h.bnd,h.wt⟩
theorem RInv.step {P:Prg} {f N n:Nat} {h h':List Int} {ws ws':List Bool} {x b:Int} {i:Ins} (H:RInv P f N h ws) (hI:InsFacts P f n i) (hw:ws[n]?=some true) (hl:∀j,j<n→ws[j]?≠some true) (hx:h[n]?=some x) (hi:P.ins f n=some i) (hs:standI P f n i x=(0,b)) (hsp:spread b (goN i n) h (ws.set n false)=some (h',ws')):
  RInv P f N h' ws'∧left h' ws'<left h ws:=by
 obtain ⟨y,hy,hy0⟩:=H.wt n hw
 rw[hx] at hy;injection hy with hy;subst hy
 obtain ⟨-,hb0,hb1,hgo,-⟩:=stand_ok hI hy0 hs
 have hne:b≠ -1:=by omega
 have hlen:(ws.set n false).length=h.length:=by rw[List.length_set,H.lw,H.lh]
 obtain ⟨h1,h2,h3⟩:=spread_left hne hlen.symm hsp
 obtain ⟨-,-,h6,-,-⟩:=spread_some hne hlen hsp
 have h8:∀v:Nat,ws'[v]?=some true→ws[v]?=some true∨∃y,h'[v]?=some y∧0≤y:=by
  have key:∀(l:List Nat) (h h':List Int) (ws ws':List Bool),spread b l h ws=some (h',ws')→∀v:Nat,ws'[v]?=some true→ws[v]?=some true∨v∈l:=by
   intro l;induction l with
   |nil=>intro h h' ws ws' e v hv;unfold spread at e;injection e with e;injection e with e1 e2;subst e2;exact .inl hv
   |cons a l ih=>
    intro h h' ws ws' e v hv;unfold spread at e;by_cases k1:h[a]?=some (-1)
    ·rw[if_pos k1] at e;rcases ih _ _ _ _ e v hv with k|k
     ·rcases set_get k with ⟨k,-⟩|⟨-,k⟩
      ·exact .inr (by rw[k];exact List.mem_cons_self ..)
      exact .inl k
     exact .inr (List.mem_cons_of_mem _ k)
    rw[if_neg k1] at e;by_cases k2:h[a]?=some b
    ·rw[if_pos k2] at e;rcases ih _ _ _ _ e v hv with k|k
     ·exact .inl k
     exact .inr (List.mem_cons_of_mem _ k)
    rw[if_neg k2] at e;cases e
  intro v hv;rcases key _ _ _ _ _ hsp v hv with k|k
  ·rcases set_get k with ⟨-,k⟩|⟨-,k⟩
   ·cases k
   exact .inl k
  exact .inr ⟨b,(spread_some hne hlen hsp).1 v k,hb0⟩
 refine ⟨⟨by rw[h2,H.lh],by rw[h3,List.length_set,H.lw],fun R hR=>H.run R (.step hw hl hx hi hs hsp hR),fun j y hj=>?_,fun j hj=>?_⟩,?_⟩
 ·rcases h6 j y hj with k|⟨-,k,-⟩
  ·exact H.bnd j y k
  omega
 ·rcases h8 j hj with k|k
  ·obtain ⟨y,k1,k2⟩:=H.wt j k;exact ⟨y,(spread_some hne hlen hsp).2.1 j y k1 (by omega),k2⟩
  exact k
 ·have h9:=waits_off hw;unfold left at h1 ⊢;omega
set_option maxRecDepth 100000 in
set_option maxHeartbeats 4000000 in
theorem refHeights_any (p:PrgM) (f:Nat) (w:World) (hp:PrgAt w p) (hg:Good p.plain) (hf:f<p.fs.length):
  Calls Try.prog 48 #[p.val,.int .i64 (f:Int)] w (RHgtPost p.plain f w):=by
 obtain ⟨g,hgf⟩:∃g,p.fs[f]?=some g:=⟨_,List.getElem?_eq_getElem hf⟩
 have hfl:p.fs.length≤2932031007402:=hp.flen
 obtain ⟨N,hN⟩:∃N,N=g.code.length:=⟨_,rfl⟩
 have hlen:p.plain.len f=N:=by rw[hN];exact PrgM.len_plain hgf
 have hGF:=good_fn hg.chk (show g.plain∈p.plain.fs from List.mem_map.2 ⟨g,List.mem_of_getElem? hgf,rfl⟩)
 have hN0:0<N:=by have:=hGF.c0;change 1≤g.code.length at this;omega
 have hN1:N≤4096:=by have:=hGF.c1;change g.code.length≤4096 at this;omega
 obtain ⟨AF,hAF⟩:∃A,A=p.AF:=⟨_,rfl⟩
 show Calls Try.prog _ #[.agg #[.int .i64 p.mem,.slice p.AD p.data.length p.cD,.slice p.AF p.fs.length p.cF],_] w _
 rw[←hAF]
 obtain ⟨w1,hw1⟩:∃w1,w1=(w.alloc (.cells #[.int .i64 p.mem,.slice p.AD p.data.length p.cD,.slice AF p.fs.length p.cF] 26)).alloc (.cells #[.int .i64 0,.int .i64 0,.int .i64 0] 37):=⟨_,rfl⟩
 have hb1:Below w.heap.size w w1:=by rw[hw1];exact ((Below.refl _ _).alloc (Nat.le_refl _) _).alloc (by simp) _
 have hX1:Blk w1 w.heap.size 26 #[.int .i64 p.mem,.slice p.AD p.data.length p.cD,.slice AF p.fs.length p.cF]:=by rw[hw1];exact (Blk.new w _ _).alloc _
 have hE1:Blk w1 (w.heap.size+1) 37 #[.int .i64 0,.int .i64 0,.int .i64 0]:=by rw[hw1];exact Blk.new2 _ _ _ _
 obtain ⟨gx,hgx⟩:∃g,g=w.heap.size:=⟨_,rfl⟩
 obtain ⟨ge,hge⟩:∃g,g=w.heap.size+1:=⟨_,rfl⟩
 have hgb:w.heap.size≤ge:=by omega
 rw[←hgx] at hX1
 rw[←hge] at hE1
 rw[←hgx] at hge
 have hP1:=hp.below hb1
 obtain ⟨b,off,hA,hb,q0,q1,q2,q3,hF,hFl⟩:=hP1.fn hgf
 rw[←hAF] at hA
 subst hA
 have hf2:(f:Int)<(p.fs.length:Int):=by omega
 have x0:w1.cell? ⟨gx,0,none⟩=some (.int .i64 p.mem):=hX1.cell 0
 have x1:w1.cell? ⟨gx,1,none⟩=some (.slice p.AD p.data.length p.cD):=hX1.cell 1
 have x2:w1.cell? ⟨gx,2,none⟩=some (.slice (some ⟨b,off,none⟩) p.fs.length p.cF):=hX1.cell 2
 have xl:=hX1.lt
 have HX:=Lib.hid hX1
 have HE:=Lib.hid hE1
 have HP:=Lib.hid hP1
 have HB1:=Lib.hid hb1
 have Hw1:=Lib.hid hw1
 have Hgx:=Lib.hid hgx
 have Hge:=Lib.hid hge
 have Hlen:=Lib.hid hlen
 have Hgood:=Lib.hid hg
 rw[←hN] at q3
 have hmkI:=run_ints N (by omega)
 have hmkB:=run_bools N (by omega)
 obtain ⟨gA,hgA⟩:∃A,A=g.A:=⟨_,rfl⟩
 obtain ⟨gc,hgc⟩:∃A,A=g.c:=⟨_,rfl⟩
 rw[←hgA, ←hgc] at q3
 have HAF:=Lib.hid hAF
 clear hp hw1 hb1 hX1 hE1 hgx hge hP1 hF hlen hg hgf hN hGF q0 q1 q2 hgA hgc hAF
 go_enter Try.func48,Try.ntmps48
 go_upto_region 1 with (fail)
 rw[←Hw1.out, ←Hgx.out, ←Hge.out]
 go_upto_region 2 with (fail)
 go_cut [7] from 18 to 25 (fun s wx=>∃gL gh gw,s= .pointer (some ⟨gL,0,none⟩)∧LookM wx gL p f N gh gw∧OwnI wx w1.heap.size (some ⟨gh,0,none⟩) N N (List.replicate N 0)∧OwnL wx w1.heap.size (some ⟨gw,0,none⟩) N N (List.replicate N false)∧w1.heap.size≤gL∧Below w1.heap.size w1 wx)
 case first=>
  obtain ⟨SC,hSCd⟩:∃S:World→Prop,S=fun w'=>(w'.cell? ⟨gx,0,none⟩=some (.int .i64 p.mem)∧w'.cell? ⟨gx,1,none⟩=some (.slice p.AD p.data.length p.cD)∧w'.cell? ⟨gx,2,none⟩=some (.slice (some ⟨b,off,none⟩) p.fs.length p.cF)∧gx<w'.heap.size):=⟨_,rfl⟩;have hSC:SC w1.drew:=by rw[hSCd];exact ⟨x0,x1,x2,xl⟩
  have HSC:=Lib.hid (show SC w1.drew from hSC)
  have HSd:=Lib.hid hSCd;clear hSC hSCd;refine region_heldT 9 SC (by kernel_rfl) (by decide) ?_
  refine hwA 0 (.agg #[.int .i64 p.mem,.slice p.AD p.data.length p.cD,.slice (some ⟨b,off,none⟩) p.fs.length p.cF]) HSC.out ?_;simp only[Act.put,List.setIfInBounds_toArray];refine hwA 1 (.int .i64 (f:Int)) HSC.out ?_;simp only[Act.put];refine hwA 2 (.int .i64 (N:Int)) HSC.out ?_;simp only[Act.put];refine hwA 4 (.int .i64 (N:Int)) HSC.out ?_;simp only[Act.put]
  have HSt:=Lib.hid (show ∀wa wb:World,SC wa→Below wa.heap.size wa wb→SC wb from fun wa wb h hb=>by
   rw[HSd.out] at h ⊢;obtain ⟨x0,x1,x2,xl⟩:=h;obtain ⟨hc,-⟩:=bcell hb;have hz:=hb.size;exact ⟨(hc _ _ xl).trans x0,(hc _ _ xl).trans x1,(hc _ _ xl).trans x2,by omega⟩)
  clear x0 x1 x2 xl q3 hb;refine headW_two 3 5 rfl rfl (by decide) (by decide) (by kernel_rfl) (by kernel_rfl) (by kernel_rfl) (fun K hK=>?_) (fun K hK=>?_)
  ·go_simp;have HS2:=Lib.hid (HSt.out _ _ HSC.out ((Below.refl _ w1.drew).alloc (Nat.le_refl _) (.cells (Array.replicate N (iv 0)) 3)));have HB2:=Lib.hid (show Below w1.heap.size w1 (w1.drew.alloc (.cells (Array.replicate N (iv 0)) 3)) from ((Below.refl _ w1).drew).alloc (Nat.le_refl _) _)
   refine hK.out _ _ HS2.out (fun hHeld=>?_);clear hK K hHeld;refine hwO 5 fun K hK=>?_;go_simp;have HS3:=Lib.hid (HSt.out _ _ HS2.out ((Below.refl _ (w1.drew.alloc (.cells (Array.replicate N (iv 0)) 3))).alloc (Nat.le_refl _) (.cells (Array.replicate N (bo false)) 4)));have HB3:=Lib.hid (show Below w1.heap.size w1 ((w1.drew.alloc (.cells (Array.replicate N (iv 0)) 3)).alloc (.cells (Array.replicate N (bo false)) 4)) from HB2.out.alloc HB2.out.size _)
   refine hK.out _ _ HS3.out (fun hHeld=>?_);clear hK K hHeld;refine hwA 6 (.agg #[.int .i64 p.mem,.slice p.AD p.data.length p.cD,.slice (some ⟨b,off,none⟩) p.fs.length p.cF,.int .i64 (f:Int),.slice (some ⟨w1.heap.size,0,none⟩) N N,.slice (some ⟨w1.heap.size+1,0,none⟩) N N]) HS3.out ?_;simp only[Act.put];refine hwO 7 fun K hK=>?_;go_simp;have HS4:=Lib.hid (HSt.out _ _ HS3.out ((Below.refl _ ((w1.drew.alloc (.cells (Array.replicate N (iv 0)) 3)).alloc (.cells (Array.replicate N (bo false)) 4))).alloc (Nat.le_refl _) (.cells #[.int .i64 p.mem,.slice p.AD p.data.length p.cD,.slice (some ⟨b,off,none⟩) p.fs.length p.cF,.int .i64 (f:Int),.slice (some ⟨w1.heap.size,0,none⟩) N N,.slice (some ⟨w1.heap.size+1,0,none⟩) N N] 126)));refine hK.out _ _ HS4.out (fun hHeld=>?_);clear hK K hHeld;refine hwO 8 fun K hK=>?_;go_simp;refine hK.out _ _ HS4.out (fun hHeld=>?_);clear hK K hHeld;refine fun _=>⟨by kernel_rfl,?_⟩
   simp only[List.drop_succ_cons,List.drop_zero];go_wp2_with fail
   go_meet;have eB:Array.replicate N (bo false)=((List.replicate N false).map bo).toArray:=by simp
   have eI:Array.replicate N (iv 0)=((List.replicate N (0:Int)).map iv).toArray:=by simp
   have hOI:OwnI (((w1.drew.alloc (.cells (Array.replicate N (iv 0)) 3)).alloc (.cells (Array.replicate N (bo false)) 4)).alloc (.cells #[.int .i64 p.mem,.slice p.AD p.data.length p.cD,.slice (some ⟨b,off,none⟩) p.fs.length p.cF,.int .i64 (f:Int),.slice (some ⟨w1.heap.size,0,none⟩) N N,.slice (some ⟨w1.heap.size+1,0,none⟩) N N] 126)) w1.heap.size (some ⟨w1.heap.size,0,none⟩) N N (List.replicate N 0):=(by have h:=OwnI.lit w1.drew N (by omega) (List.replicate N (0:Int)) (by simp);rw[←eI] at h;exact Own.below (Own.below h ((Below.refl _ _).alloc (Nat.le_refl _) _) (Nat.le_refl _)) ((Below.refl _ _).alloc (Nat.le_refl _) _) (Nat.le_refl _))
   have hOL:OwnL (((w1.drew.alloc (.cells (Array.replicate N (iv 0)) 3)).alloc (.cells (Array.replicate N (bo false)) 4)).alloc (.cells #[.int .i64 p.mem,.slice p.AD p.data.length p.cD,.slice (some ⟨b,off,none⟩) p.fs.length p.cF,.int .i64 (f:Int),.slice (some ⟨w1.heap.size,0,none⟩) N N,.slice (some ⟨w1.heap.size+1,0,none⟩) N N] 126)) w1.heap.size (some ⟨w1.heap.size+1,0,none⟩) N N (List.replicate N false):=(by have h:=OwnL.lit (w1.drew.alloc (.cells (Array.replicate N (iv 0)) 3)) N (by omega) (List.replicate N false) (by simp);rw[←eB] at h;have h2:=Own.below h ((Below.refl _ _).alloc (Nat.le_refl _) (.cells #[.int .i64 p.mem,.slice p.AD p.data.length p.cD,.slice (some ⟨b,off,none⟩) p.fs.length p.cF,.int .i64 (f:Int),.slice (some ⟨w1.heap.size,0,none⟩) N N,.slice (some ⟨w1.heap.size+1,0,none⟩) N N] 126)) (Nat.le_refl _);rw[World.size_alloc] at h2;exact Own.mono h2 (Nat.le_succ _))
   have hLk:LookM (((w1.drew.alloc (.cells (Array.replicate N (iv 0)) 3)).alloc (.cells (Array.replicate N (bo false)) 4)).alloc (.cells #[.int .i64 p.mem,.slice p.AD p.data.length p.cD,.slice (some ⟨b,off,none⟩) p.fs.length p.cF,.int .i64 (f:Int),.slice (some ⟨w1.heap.size,0,none⟩) N N,.slice (some ⟨w1.heap.size+1,0,none⟩) N N] 126)) (w1.heap.size+1+1) p f N (w1.heap.size) (w1.heap.size+1):=by
    unfold LookM;rw[←HAF.out];have h:=Blk.new ((w1.drew.alloc (.cells (Array.replicate N (iv 0)) 3)).alloc (.cells (Array.replicate N (bo false)) 4)) 126 #[.int .i64 p.mem,.slice p.AD p.data.length p.cD,.slice (some ⟨b,off,none⟩) p.fs.length p.cF,.int .i64 (f:Int),.slice (some ⟨w1.heap.size,0,none⟩) N N,.slice (some ⟨w1.heap.size+1,0,none⟩) N N];rw[World.size_alloc,World.size_alloc] at h;exact h
   have hBe:Below w1.heap.size w1 (((w1.drew.alloc (.cells (Array.replicate N (iv 0)) 3)).alloc (.cells (Array.replicate N (bo false)) 4)).alloc (.cells #[.int .i64 p.mem,.slice p.AD p.data.length p.cD,.slice (some ⟨b,off,none⟩) p.fs.length p.cF,.int .i64 (f:Int),.slice (some ⟨w1.heap.size,0,none⟩) N N,.slice (some ⟨w1.heap.size+1,0,none⟩) N N] 126)):=HB3.out.alloc HB3.out.size _;exact ⟨w1.heap.size+1+1,w1.heap.size,w1.heap.size+1,rfl,hLk,hOI,hOL,by omega,hBe⟩
  ·go_simp;have HS2:=Lib.hid (HSt.out _ _ HSC.out ((Below.refl _ w1.drew).alloc (Nat.le_refl _) (.cells (Array.replicate N (bo false)) 4)));have HB2:=Lib.hid (show Below w1.heap.size w1 (w1.drew.alloc (.cells (Array.replicate N (bo false)) 4)) from ((Below.refl _ w1).drew).alloc (Nat.le_refl _) _)
   refine hK.out _ _ HS2.out (fun hHeld=>?_);clear hK K hHeld;refine hwO 3 fun K hK=>?_;go_simp;have HS3:=Lib.hid (HSt.out _ _ HS2.out ((Below.refl _ (w1.drew.alloc (.cells (Array.replicate N (bo false)) 4))).alloc (Nat.le_refl _) (.cells (Array.replicate N (iv 0)) 3)));have HB3:=Lib.hid (show Below w1.heap.size w1 ((w1.drew.alloc (.cells (Array.replicate N (bo false)) 4)).alloc (.cells (Array.replicate N (iv 0)) 3)) from HB2.out.alloc HB2.out.size _)
   refine hK.out _ _ HS3.out (fun hHeld=>?_);clear hK K hHeld;refine hwA 6 (.agg #[.int .i64 p.mem,.slice p.AD p.data.length p.cD,.slice (some ⟨b,off,none⟩) p.fs.length p.cF,.int .i64 (f:Int),.slice (some ⟨w1.heap.size+1,0,none⟩) N N,.slice (some ⟨w1.heap.size,0,none⟩) N N]) HS3.out ?_;simp only[Act.put];refine hwO 7 fun K hK=>?_;go_simp;have HS4:=Lib.hid (HSt.out _ _ HS3.out ((Below.refl _ ((w1.drew.alloc (.cells (Array.replicate N (bo false)) 4)).alloc (.cells (Array.replicate N (iv 0)) 3))).alloc (Nat.le_refl _) (.cells #[.int .i64 p.mem,.slice p.AD p.data.length p.cD,.slice (some ⟨b,off,none⟩) p.fs.length p.cF,.int .i64 (f:Int),.slice (some ⟨w1.heap.size+1,0,none⟩) N N,.slice (some ⟨w1.heap.size,0,none⟩) N N] 126)));refine hK.out _ _ HS4.out (fun hHeld=>?_);clear hK K hHeld;refine hwO 8 fun K hK=>?_;go_simp;refine hK.out _ _ HS4.out (fun hHeld=>?_);clear hK K hHeld;refine fun _=>⟨by kernel_rfl,?_⟩
   simp only[List.drop_succ_cons,List.drop_zero];go_wp2_with fail
   go_meet;have eB:Array.replicate N (bo false)=((List.replicate N false).map bo).toArray:=by simp
   have eI:Array.replicate N (iv 0)=((List.replicate N (0:Int)).map iv).toArray:=by simp
   have hOI:OwnI (((w1.drew.alloc (.cells (Array.replicate N (bo false)) 4)).alloc (.cells (Array.replicate N (iv 0)) 3)).alloc (.cells #[.int .i64 p.mem,.slice p.AD p.data.length p.cD,.slice (some ⟨b,off,none⟩) p.fs.length p.cF,.int .i64 (f:Int),.slice (some ⟨w1.heap.size+1,0,none⟩) N N,.slice (some ⟨w1.heap.size,0,none⟩) N N] 126)) w1.heap.size (some ⟨w1.heap.size+1,0,none⟩) N N (List.replicate N 0):=(by have h:=OwnI.lit (w1.drew.alloc (.cells (Array.replicate N (bo false)) 4)) N (by omega) (List.replicate N (0:Int)) (by simp);rw[←eI] at h;have h2:=Own.below h ((Below.refl _ _).alloc (Nat.le_refl _) (.cells #[.int .i64 p.mem,.slice p.AD p.data.length p.cD,.slice (some ⟨b,off,none⟩) p.fs.length p.cF,.int .i64 (f:Int),.slice (some ⟨w1.heap.size+1,0,none⟩) N N,.slice (some ⟨w1.heap.size,0,none⟩) N N] 126)) (Nat.le_refl _);rw[World.size_alloc] at h2;exact Own.mono h2 (Nat.le_succ _))
   have hOL:OwnL (((w1.drew.alloc (.cells (Array.replicate N (bo false)) 4)).alloc (.cells (Array.replicate N (iv 0)) 3)).alloc (.cells #[.int .i64 p.mem,.slice p.AD p.data.length p.cD,.slice (some ⟨b,off,none⟩) p.fs.length p.cF,.int .i64 (f:Int),.slice (some ⟨w1.heap.size+1,0,none⟩) N N,.slice (some ⟨w1.heap.size,0,none⟩) N N] 126)) w1.heap.size (some ⟨w1.heap.size,0,none⟩) N N (List.replicate N false):=(by have h:=OwnL.lit w1.drew N (by omega) (List.replicate N false) (by simp);rw[←eB] at h;exact Own.below (Own.below h ((Below.refl _ _).alloc (Nat.le_refl _) _) (Nat.le_refl _)) ((Below.refl _ _).alloc (Nat.le_refl _) _) (Nat.le_refl _))
   have hLk:LookM (((w1.drew.alloc (.cells (Array.replicate N (bo false)) 4)).alloc (.cells (Array.replicate N (iv 0)) 3)).alloc (.cells #[.int .i64 p.mem,.slice p.AD p.data.length p.cD,.slice (some ⟨b,off,none⟩) p.fs.length p.cF,.int .i64 (f:Int),.slice (some ⟨w1.heap.size+1,0,none⟩) N N,.slice (some ⟨w1.heap.size,0,none⟩) N N] 126)) (w1.heap.size+1+1) p f N (w1.heap.size+1) (w1.heap.size):=by
    unfold LookM;rw[←HAF.out];have h:=Blk.new ((w1.drew.alloc (.cells (Array.replicate N (bo false)) 4)).alloc (.cells (Array.replicate N (iv 0)) 3)) 126 #[.int .i64 p.mem,.slice p.AD p.data.length p.cD,.slice (some ⟨b,off,none⟩) p.fs.length p.cF,.int .i64 (f:Int),.slice (some ⟨w1.heap.size+1,0,none⟩) N N,.slice (some ⟨w1.heap.size,0,none⟩) N N];rw[World.size_alloc,World.size_alloc] at h;exact h
   have hBe:Below w1.heap.size w1 (((w1.drew.alloc (.cells (Array.replicate N (bo false)) 4)).alloc (.cells (Array.replicate N (iv 0)) 3)).alloc (.cells #[.int .i64 p.mem,.slice p.AD p.data.length p.cD,.slice (some ⟨b,off,none⟩) p.fs.length p.cF,.int .i64 (f:Int),.slice (some ⟨w1.heap.size+1,0,none⟩) N N,.slice (some ⟨w1.heap.size,0,none⟩) N N] 126)):=HB3.out.alloc HB3.out.size _;exact ⟨w1.heap.size+1+1,w1.heap.size+1,w1.heap.size,rfl,hLk,hOI,hOL,by omega,hBe⟩
 case rest=>
 rename World=>w2
 obtain ⟨gL,gh,gw,rfl,hLk,hI,hW,hgL,hb12⟩:=hcut
 have hLkB:Blk w2 gL 126 #[.int .i64 p.mem,.slice p.AD p.data.length p.cD,.slice p.AF p.fs.length p.cF,.int .i64 (f:Int),.slice (some ⟨gh,0,none⟩) N N,.slice (some ⟨gw,0,none⟩) N N]:=hLk
 have HLk:=Lib.hid hLkB
 have Hb12:=Lib.hid hb12
 have hne:gh≠gw:=fun e=>own_ne hI hW (by decide) gh rfl (by rw[e];rfl)
 have Hne:=Lib.hid (show (gh≠gL∧gw≠gL)∧w1.heap.size≤gh∧w1.heap.size≤gw from ⟨⟨Own.ne_blk hI hLkB (by decide) gh 0 rfl,Own.ne_blk hW hLkB (by decide) gw 0 rfl⟩,(Own.row hI gh rfl).1,(Own.row hW gw rfl).1⟩)
 have hI0:OwnI w2 w1.heap.size (some ⟨gh,0,none⟩) N N (0::(List.replicate 0 (-1)++List.replicate (N-1-0) 0)):=by
  have e:(0::(List.replicate 0 (-1:Int)++List.replicate (N-1-0) 0))=List.replicate N 0:=by
   obtain ⟨M,rfl⟩:∃M,N=M+1:=⟨N-1,by omega⟩
   rw[List.replicate_succ];rfl
  rw[e];exact hI
 have HI2:=Lib.hid hI0
 have HW2:=Lib.hid hW
 clear hLk hLkB hI hI0 hW hb12 x0 x1 x2 xl q3 hb hmkI hmkB
 go_wp2_with fail
 go_loopw [8] (fun i wr=>∃k:Nat,k+1≤N∧i= .int .i64 ((k:Int)+1)∧OwnI wr w1.heap.size (some ⟨gh,0,none⟩) N N (0::(List.replicate k (-1)++List.replicate (N-1-k) 0))∧Only (fun q=>q=gh) w2 wr) (fun i _=>N-(intOf i).toNat)
 case atStart=>exact ⟨0,by omega,rfl,HI2.out,Only.refl _ _⟩
 case round=>
  rename World=>wa;obtain ⟨k,hk,rfl,hH,hO⟩:=hrel;have HHk:=Lib.hid hH;have HOk:=Lib.hid hO;have hLa:=HLk.out.only hO (fun e=>Hne.out.1.1 e.symm);by_cases hlt:k+1<N
  ·have g1:(k:Int)+1<(N:Int):=by omega
   have hl:k+1<((0:Int)::(List.replicate k (-1)++List.replicate (N-1-k) 0)).length:=by simp;omega
   have c0:=OwnI.at_ hH (k+1) hl;obtain ⟨cf,cl⟩:=OwnI.room hH (k+1) hl;have l4:wa.cell? ⟨gL,2+2,none⟩=some (.slice (some ⟨gh,0,none⟩) N N):=hLa.cell 4;have ll:=hLa.lt;generalize ((0:Int)::(List.replicate k (-1)++List.replicate (N-1-k) 0))[k+1]'hl=y at c0
   have HHn:=Lib.hid (show OwnI (wa.setCell ⟨gh,k+1,none⟩ (.int .i64 (-1))) w1.heap.size (some ⟨gh,0,none⟩) N N (0::(List.replicate (k+1) (-1)++List.replicate (N-1-(k+1)) 0)) from by
    have h1:=hH.put (k+1) (-1);rw[List.set_cons_succ,rep_next k (N-1) (by omega)] at h1
    exact h1)
   have HOn:=Lib.hid (hO.setCell (p:=⟨gh,k+1,none⟩) (.inl rfl) (.int .i64 (-1)));clear hH hO hl hLa;go_wp2_with fail
   exact ⟨⟨k+1,by omega,by first|rfl|go_num,HHn.out,HOn.out⟩,by simp[intOf];omega⟩
  have g1: ¬ (k:Int)+1<(N:Int):=by omega
  have HHf:=Lib.hid (show OwnI wa w1.heap.size (some ⟨gh,0,none⟩) N N (h0L N) from by
   have hkN:N=k+1:=by omega
   have h1:=HHk.out;rw[show N-1-k=0 from by omega,List.replicate_zero,List.append_nil] at h1
   unfold h0L;rw[show (List.replicate N (-1:Int)).set 0 0=0::List.replicate k (-1) from by rw[hkN,List.replicate_succ,List.set_cons_zero]]
   exact h1)
  have hWa:OwnL wa w1.heap.size (some ⟨gw,0,none⟩) N N (List.replicate N false):=Own.only HW2.out hO fun b o e e2=>by injection e with e;injection e with e;exact hne (e2.symm.trans e.symm)
  have c0:=OwnL.at_ hWa 0 (by simp;omega)
  obtain ⟨cf,cl⟩:=OwnL.room hWa 0 (by simp;omega)
  generalize (List.replicate N false)[0]'(by simp;omega)=y at c0
  have l5:wa.cell? ⟨gL,2+3,none⟩=some (.slice (some ⟨gw,0,none⟩) N N):=hLa.cell 5;have ll:=hLa.lt;have gN0:(0:Int)<(N:Int):=by omega
  have HQ:=Lib.hid (show OwnI (wa.setCell ⟨gw,0,none⟩ (.bool true)) w1.heap.size (some ⟨gh,0,none⟩) N N (h0L N)∧OwnL (wa.setCell ⟨gw,0,none⟩ (.bool true)) w1.heap.size (some ⟨gw,0,none⟩) N N (w0L N)∧Only (fun q=>q=gh∨q=gw) w2 (wa.setCell ⟨gw,0,none⟩ (.bool true)) from
   ⟨Own.fars HHf.out (fun e=>by injection e with e;exact hne e) _,OwnL.put hWa 0 true,(hO.mono (fun q _ h=> .inl h)).setCell (p:=⟨gw,0,none⟩) (.inl (.inr rfl)) _⟩)
  clear hH hO hLa hWa HHk HOk HHf HI2 HW2 hk;go_wp2_with fail
  generalize wa.setCell ⟨gw,0,none⟩ (.bool true)=wb at*
  clear c0 cf cl l5 ll;go_loopw [9] (fun _ wr=>∃(h:List Int) (ws:List Bool),Hid (RInv p.plain f N h ws)∧OwnI wr w1.heap.size (some ⟨gh,0,none⟩) N N h∧OwnL wr w1.heap.size (some ⟨gw,0,none⟩) N N ws∧Only (fun q=>q=gh∨q=gw) w2 wr) (fun _ wr=>left (rdI wr gh N) (rdB wr gw N))
  case atStart=>exact ⟨_,_,Lib.hid (RInv.start hN0),HQ.out⟩
  clear HQ;rename World=>wr;obtain ⟨h,ws,HR,hI,hW,hO⟩:=hrel;have HI:=Lib.hid hI;have HW:=Lib.hid hW;have HO:=Lib.hid hO;have Hm:=Lib.hid (show left (rdI wr gh N) (rdB wr gw N)=left h ws from by rw[rdI_own hI HR.out.lh,rdB_own hW HR.out.lw])
  have HLr:=Lib.hid (HLk.out.only hO (fun e=>e.elim (fun e=>Hne.out.1.1 e.symm) (fun e=>Hne.out.1.2 e.symm)));have HBr:=Lib.hid (show Below w1.heap.size w1 wr from Hb12.out.trans (hO.below (B:=w1.heap.size) Hb12.out.size (by have:=Hne.out;intro k hk e;rcases e with e|e<;>omega)))
  have hlh:=HR.out.lh;have hlw:=HR.out.lw;clear hI hW hO;go_wp2_with fail
  go_loopw [9] (fun lv wz=>∃j:Nat,j≤N∧lv= .int .i64 (j:Int)∧Hid (∀i,i<j→ws[i]?≠some true)∧wr=wz) (fun lv _=>N-(intOf lv).toNat)
  case atStart=>exact ⟨0,Nat.zero_le _,rfl,Lib.hid (fun i hi=>by omega),rfl⟩
  obtain ⟨j,hj,rfl,HJ,hwz⟩:=hrel;subst hwz;rename World=>wr;have l5:wr.cell? ⟨gL,2+3,none⟩=some (.slice (some ⟨gw,0,none⟩) N N):=HLr.out.cell 5;have ll:=HLr.out.lt;by_cases hlt:j<N
  ·have g2:(j:Int)<(N:Int):=by omega
   have g2d:decide ((j:Int)<(N:Int))=true:=by simpa using hlt
   have g3:((j:Int)==(N:Int))=false:=by rw[beq_eq_false_iff_ne];omega
   have c1:=OwnL.at_ HW.out j (by omega)
   obtain ⟨cf1,cl1⟩:=OwnL.room HW.out j (by omega)
   obtain ⟨u,hu⟩:∃u,ws[j]?=some u:=⟨_,List.getElem?_eq_getElem (by omega)⟩
   have hu2:ws[j]'(by omega)=u:=(List.getElem?_eq_some_iff.1 hu).2
   rw[hu2] at c1;have Hu:=Lib.hid hu;clear hu hu2;cases u with
   |false=>
    go_wp2_with fail
    exact ⟨⟨j+1,by omega,by go_num,Lib.hid (fun i hi=>by
     rcases Nat.lt_succ_iff_lt_or_eq.1 hi with h1|h1
     ·exact HJ.out i h1
     rw[h1,Hu.out];intro h2;cases h2),by first|trivial|rfl⟩,by simp[intOf];omega⟩
   |true=>
    obtain ⟨x,hx,hx0⟩:=HR.out.wt j Hu.out;have hxb:=HR.out.bnd j x hx;obtain ⟨i,hi⟩:=Prg.ins_ex (P:=p.plain) (f:=f) (n:=j) (by rw[Hlen.out];exact hlt)
    have Hx:=Lib.hid hx;have Hi:=Lib.hid hi
    have HQ:=Lib.hid (show OwnI (wr.setCell ⟨gw,j,none⟩ (.bool false)) w1.heap.size (some ⟨gh,0,none⟩) N N h∧OwnL (wr.setCell ⟨gw,j,none⟩ (.bool false)) w1.heap.size (some ⟨gw,0,none⟩) N N (ws.set j false)∧Only (fun q=>q=gh∨q=gw) w2 (wr.setCell ⟨gw,j,none⟩ (.bool false)) from
     ⟨Own.fars HI.out (fun e=>by injection e with e;exact hne e) _,OwnL.put HW.out j false,HO.out.setCell (p:=⟨gw,j,none⟩) (.inl (.inr rfl)) _⟩)
    clear hx hi;go_upto_region 14 with (fail)
    generalize wr.setCell ⟨gw,j,none⟩ (.bool false)=wc at*
    have hLc:LookM wc gL p f N gh gw:=HLk.out.only HQ.out.2.2 (fun e=>e.elim (fun e=>Hne.out.1.1 e.symm) (fun e=>Hne.out.1.2 e.symm));have hBc:Below w1.heap.size w1 wc:=Hb12.out.trans (HQ.out.2.2.below (B:=w1.heap.size) Hb12.out.size (by have:=Hne.out;intro k hk e;rcases e with e|e<;>omega))
    have Htk:=Lib.hid (taken_any p f j gL gh gw N w1.heap.size h (ws.set j false) x i wc (HP.out.below hBc) Hgood.out Hi.out hLc HQ.out.1 HQ.out.2.1 Hlen.out hlh (by rw[List.length_set];exact hlw) Hx.out (by omega) hxb.2)
    clear hLc hBc l5 ll c1 cf1 cl1;go_wp2_with fail
    refine Htk.out.mono ?_;rintro e wd ⟨E,h',ws',rfl,hI',hW',hO',hres⟩;have HI':=Lib.hid hI';have HW':=Lib.hid hW';have HO':=Lib.hid (HQ.out.2.2.trans hO');clear hI' hW' hO' Htk HQ;rcases hres with ⟨rfl,b2,hst,hsp⟩|⟨hE,hbad⟩
    ·obtain ⟨hst1,hst2⟩:=HR.out.step (ins_facts Hgood.out.chk Hi.out) Hu.out HJ.out Hx.out Hi.out hst hsp;have HR':=Lib.hid hst1;have Hl2:=Lib.hid (show left (rdI wd gh N) (rdB wd gw N)<left (rdI wr gh N) (rdB wr gw N) from by rw[Hm.out,rdI_own HI'.out hst1.lh,rdB_own HW'.out hst1.lw];exact hst2)
     clear hst hsp hst1 hst2;go_wp2_with fail
     exact ⟨⟨h',ws',HR',HI'.out,HW'.out,HO'.out⟩,Hl2.out⟩
    have hBd:Below w1.heap.size w1 wd:=Hb12.out.trans (HO'.out.below (B:=w1.heap.size) Hb12.out.size (by have:=Hne.out;intro k hk e;rcases e with e|e<;>omega))
    have hEr:=HE.out.below hBd HE.out.lt;have e0:wd.cell? ⟨ge,0,none⟩=some (.int .i64 0):=hEr.cell 0;have e1:wd.cell? ⟨ge,1,none⟩=some (.int .i64 0):=hEr.cell 1;have e2:wd.cell? ⟨ge,2,none⟩=some (.int .i64 0):=hEr.cell 2;have ef0:wd.frozen? ⟨ge,0,none⟩=false:=hEr.frozen 0;have ef1:wd.frozen? ⟨ge,1,none⟩=false:=hEr.frozen 1;have ef2:wd.frozen? ⟨ge,2,none⟩=false:=hEr.frozen 2;have el:=hEr.lt;have hEb:(E==0)=false:=by simpa using hE
    have hEn:(E != 0)=true:=by simpa using hE
    have HFin:=Lib.hid (show RHgtPost p.plain f w (.returned (.tuple #[.slice none 0 0,.agg #[.int .i64 E,.int .i64 (f:Int),.int .i64 (j:Int)]])) (((wd.setCell ⟨ge,0,none⟩ (.int .i64 E)).setCell ⟨ge,1,none⟩ (.int .i64 (f:Int))).setCell ⟨ge,2,none⟩ (.int .i64 (j:Int))) from
     ⟨(((HB1.out.trans (hBd.mono HB1.out.size)).setCell hgb _).setCell hgb _).setCell hgb _,.inr ⟨E,j,by
      rw[Hlen.out];refine HR.out.run _ ?_;rcases hbad with ⟨b2,hst⟩|⟨rfl,b2,hst,hsp⟩
      ·exact .bad Hu.out HJ.out Hx.out Hi.out hst hE
      exact .join Hu.out HJ.out Hx.out Hi.out hst hsp,hE,rfl⟩⟩)
    clear hEr hBd hbad;go_wp2_with fail
    refine bodyPost_ret (v:=.tuple #[.slice none 0 0,.agg #[.int .i64 E,.int .i64 (f:Int),.int .i64 (j:Int)]]) ?_ rfl HFin.out;simp[results,Try.results48,go_sem,e0,e1,e2]
  obtain rfl:j=N:=by omega
  have g2: ¬ (j:Int)<(j:Int):=by omega
  have g2d:decide ((j:Int)<(j:Int))=false:=by simp
  have g3:((j:Int)==(j:Int))=true:=by simp
  have l4:wr.cell? ⟨gL,2+2,none⟩=some (.slice (some ⟨gh,0,none⟩) j j):=HLr.out.cell 4;have hEr:=HE.out.below HBr.out HE.out.lt;have e0:wr.cell? ⟨ge,0,none⟩=some (.int .i64 0):=hEr.cell 0;have e1:wr.cell? ⟨ge,1,none⟩=some (.int .i64 0):=hEr.cell 1;have e2:wr.cell? ⟨ge,2,none⟩=some (.int .i64 0):=hEr.cell 2;have ef0:wr.frozen? ⟨ge,0,none⟩=false:=hEr.frozen 0;have ef1:wr.frozen? ⟨ge,1,none⟩=false:=hEr.frozen 1;have ef2:wr.frozen? ⟨ge,2,none⟩=false:=hEr.frozen 2;have el:=hEr.lt;have hgeh:gh≠ge:=Own.ne_blk HI.out hEr (by decide) gh 0 rfl
  have HFin:=Lib.hid (show RHgtPost p.plain f w (.returned (.tuple #[.slice (some ⟨gh,0,none⟩) j j,.agg #[.int .i64 0,.int .i64 0,.int .i64 0]])) (((wr.setCell ⟨ge,0,none⟩ (.int .i64 0)).setCell ⟨ge,1,none⟩ (.int .i64 0)).setCell ⟨ge,2,none⟩ (.int .i64 0)) from
   ⟨(((HB1.out.trans (HBr.out.mono HB1.out.size)).setCell hgb _).setCell hgb _).setCell hgb _,.inl ⟨h,some ⟨gh,0,none⟩,j,by rw[Hlen.out];exact HR.out.run _ (.done (fun i hi=>by
    have h1:=(List.getElem?_eq_some_iff.1 hi).1;exact HJ.out i (by omega) hi)),by rw[Hlen.out];exact hlh,by rw[hlh];rfl,by
    rw[hlh];exact Own.mono (Own.fars (Own.fars (Own.fars HI.out (fun e=>by injection e with e;exact hgeh e) _) (fun e=>by injection e with e;exact hgeh e) _) (fun e=>by injection e with e;exact hgeh e) _) HB1.out.size⟩⟩)
  clear hEr hgeh;go_wp2_with fail
  refine bodyPost_ret (v:=.tuple #[.slice (some ⟨gh,0,none⟩) j j,.agg #[.int .i64 0,.int .i64 0,.int .i64 0]]) ?_ rfl HFin.out;simp[results,Try.results48,go_sem,e0,e1,e2]
end Go.Proofs.Ytcmpmhlcfalbhaa
