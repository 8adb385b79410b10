import Derived.Test.YtcmpmhlcfalbhaaZ35
import Derived.Test.YtcmpmhlcfalbhaaZ31
import Derived.Test.YtcmpmhlcfalbhaaZ37
import Derived.Test.YtcmpmhlcfalbhaaZ42
import Derived.Test.YtcmpmhlcfalbhaaZ46
namespace Go.Proofs.Ytcmpmhlcfalbhaa
section
open Go.RowKit
theorem small_at {w:World} {gI gF:Nat} {code:List Ins} (hI:Blk w gI 45 (code.flatMap insCells).toArray) (hF:Blk w gF 43 #[.int .i64 0,.int .i64 0,.int .i64 1,.slice (some ⟨gI,0,none⟩) code.length 4]) (hok:∀i∈code,InsOk i) (hl:code.length≤100):
  PrgAt w ⟨0,none,0,[],some ⟨gF,0,none⟩,1,[⟨0,0,1,some ⟨gI,0,none⟩,4,code⟩]⟩:=by
 refine ⟨⟨.inl rfl,(fun _=>⟨rfl,rfl⟩)⟩,of_decide_eq_true rfl,RV.of_blk hF,(fun e=>by cases e),of_decide_eq_true rfl,(fun f hf=>?_),of_decide_eq_true rfl,of_decide_eq_true rfl⟩
 rw[List.mem_singleton.1 hf]
 exact ⟨RV.of_blk hI,hok,(fun e=>by cases e),by dsimp only;omega,of_decide_eq_true rfl,of_decide_eq_true rfl,of_decide_eq_true rfl,of_decide_eq_true rfl,of_decide_eq_true rfl,of_decide_eq_true rfl⟩
def Small13 (w:World) (e:Ending) (w':World):Prop:=∃gI gF,e= .returned (.agg #[.int .i64 0,.slice none 0 0,.slice (some ⟨gF,0,none⟩) 1 1])∧Blk w' gI 45 (codeA.flatMap insCells).toArray∧Blk w' gF 43 #[.int .i64 0,.int .i64 0,.int .i64 1,.slice (some ⟨gI,0,none⟩) 4 4]∧w.heap.size≤gI∧w.heap.size≤gF∧Below w.heap.size w w'
set_option maxRecDepth 100000 in
theorem small13_any (w:World):Calls Try.prog 41 #[] w (Small13 w):=by
 go_enter Try.func41,Try.ntmps41
 go_wp2_with fail
 have h3:=blk3 w #[.int .i64 0,.slice none 0 0,.slice (some ⟨w.heap.size+1+1,0,none⟩) 1 1] (codeA.flatMap insCells).toArray #[.int .i64 0,.int .i64 0,.int .i64 1,.slice (some ⟨w.heap.size+1,0,none⟩) 4 4] 26 45 43;obtain ⟨w1,hw1⟩:∃w1,w1=((w.alloc (.cells #[.int .i64 0,.slice none 0 0,.slice (some ⟨w.heap.size+1+1,0,none⟩) 1 1] 26)).alloc (.cells (codeA.flatMap insCells).toArray 45)).alloc (.cells #[.int .i64 0,.int .i64 0,.int .i64 1,.slice (some ⟨w.heap.size+1,0,none⟩) 4 4] 43):=⟨_,rfl⟩;have hb1:Below w.heap.size w w1:=by rw[hw1];exact (((Below.refl _ _).alloc (Nat.le_refl _) _).alloc (by simp) _).alloc (by simp;omega) _
 rw[←hw1] at h3;have e:(codeA.flatMap insCells).toArray=#[.int .i64 3,.int .i64 3,.int .i64 3,.int .i64 4,.int .i64 21,.int .i64 0,.int .i64 18,.int .i64 0]:=rfl;rw[e] at hw1;rw[←hw1];obtain ⟨h0,h1,h2⟩:=h3;have c0:w1.cell? ⟨w.heap.size,0,none⟩=some (.int .i64 0):=h0.cell 0;have c1:w1.cell? ⟨w.heap.size,1,none⟩=some (.slice none 0 0):=h0.cell 1;have c2:w1.cell? ⟨w.heap.size,2,none⟩=some (.slice (some ⟨w.heap.size+1+1,0,none⟩) 1 1):=h0.cell 2;have hl0:=h0.lt;refine bodyPost_ret (v:=.agg #[.int .i64 0,.slice none 0 0,.slice (some ⟨w.heap.size+1+1,0,none⟩) 1 1]) ?_ rfl ⟨w.heap.size+1,w.heap.size+1+1,rfl,h1,h2,by omega,by omega,hb1⟩
 simp[results,Try.results41,go_sem,c0,c1,c2]
theorem okA:∀i∈codeA,InsOk i:=fun i hi=>by simp only[codeA,List.mem_cons,List.not_mem_nil,or_false] at hi;rcases hi with rfl|rfl|rfl|rfl<;>exact ⟨by decide,by decide,by decide,by decide⟩
theorem okB:∀i∈codeB,InsOk i:=fun i hi=>by simp only[codeB,List.mem_cons,List.not_mem_nil,or_false] at hi;rcases hi with rfl|rfl|rfl|rfl<;>exact ⟨by decide,by decide,by decide,by decide⟩
set_option maxRecDepth 100000 in
set_option maxHeartbeats 1000000 in
theorem head13_any (w:World):Calls Try.prog 15 #[] w fun e w'=>e= .returned (.bool true)∧Below w.heap.size w w':=by
 go_enter Try.func15,Try.ntmps15
 go_wp2_with fail
 refine (small13_any w).mono ?_;rintro e w1 ⟨gI,gF,rfl,hI,hF,hlI,hlF,hb1⟩;have hat:=small_at (code:=codeA) hI hF okA (by decide)
 have HR:=Lib.hid (run_any _ w1 hat);have Hb1:=Lib.hid hb1;clear hI hF hlI hlF hb1 hat;go_wp2_with fail
 refine HR.out.mono ?_;rintro e w2 ⟨hb2,⟨x,hx,-⟩|⟨hs,tops,lps,live,ce,co,HR2,LR,AH,cH,AT,cT,AL,cL,gL,hok,hM,hL,rfl⟩⟩
 ·exact absurd hx no_bad_A
 obtain ⟨rfl,rfl,rfl⟩:=ok_A hok;obtain ⟨bh,r,rfl,-,hbh,hch,hO⟩:=rows_at hM.hh hM.sh hM.oh (f:=0) (by decide)
 obtain ⟨rb,hrA,-,hrb,hrc⟩:=own_pos hO (by decide)
 have hr2:=hrc 2 (.int .i64 2) rfl;rw[hrA] at hch;have Hb2:=Lib.hid (Hb1.out.trans (hb2.mono Hb1.out.size));have Hfa:=Lib.hid (show w2.cell? ⟨bh,0,none⟩=some (.slice (some ⟨rb,0,none⟩) 4 r.c)∧bh<w2.heap.size∧w2.cell? ⟨rb,2,none⟩=some (.int .i64 2)∧rb<w2.heap.size from ⟨hch,hbh,hr2,hrb⟩)
 obtain ⟨nt,hnt⟩:∃x,x=tops.length:=⟨_,rfl⟩;obtain ⟨nl,hnl⟩:∃x,x=lps.length:=⟨_,rfl⟩;obtain ⟨nv,hnv⟩:∃x,x=live.length:=⟨_,rfl⟩;rw[←hnt, ←hnl, ←hnv];clear hb2 hok hM hL hch hbh hO hrb hrc hr2 hrA hnt hnl hnv HR;dsimp only[faultV,List.length];go_wp2_with fail
 obtain ⟨w3,hw3⟩:∃w3,w3=(w2.alloc (.cells #[.slice (some ⟨bh,0,none⟩) 1 cH,.slice AT nt cT,.slice AL nl cL,.slice (some ⟨gL,0,none⟩) nv nv,.int .i64 3,.int .i64 4] 32)).alloc (.cells #[.int .i64 0,.int .i64 0,.int .i64 0] 37):=⟨_,rfl⟩;rw[←hw3];have hb23:Below w2.heap.size w2 w3:=by rw[hw3];exact ((Below.refl _ _).alloc (Nat.le_refl _) _).alloc (by simp) _
 obtain ⟨gA,hgA⟩:∃g,g=w2.heap.size:=⟨_,rfl⟩;obtain ⟨gB,hgB⟩:∃g,g=w2.heap.size+1:=⟨_,rfl⟩;rw[←hgB, ←hgA];have hA3:Blk w3 gA 32 #[.slice (some ⟨bh,0,none⟩) 1 cH,.slice AT nt cT,.slice AL nl cL,.slice (some ⟨gL,0,none⟩) nv nv,.int .i64 3,.int .i64 4]:=by rw[hw3,hgA];exact (Blk.new w2 _ _).alloc _
 have hB3:Blk w3 gB 37 #[.int .i64 0,.int .i64 0,.int .i64 0]:=by rw[hw3,hgB];exact Blk.new2 _ _ _ _
 have HA3:=Lib.hid hA3;have HB3:=Lib.hid hB3;have Hb23:=Lib.hid hb23;have HgA:=Lib.hid hgA;have HgB:=Lib.hid hgB;clear hw3 hb23 hA3 hB3 hgA hgB Hb1;refine (small13_any w3).mono ?_;rintro e w4 ⟨gI4,gF4,rfl,hI,hF,hlI,hlF,hb34⟩;have HI4:=Lib.hid hI;have HF4:=Lib.hid hF;have Hb34:=Lib.hid hb34;have HlI:=Lib.hid hlI;have HlF:=Lib.hid hlF;obtain ⟨gP,hgP⟩:∃g,g=w4.heap.size:=⟨_,rfl⟩;obtain ⟨w5,hw5⟩:∃w5,w5=w4.alloc (.cells #[.int .i64 0,.slice none 0 0,.slice (some ⟨gF4,0,none⟩) 1 1] 26):=⟨_,rfl⟩;have hb45:Below w4.heap.size w4 w5:=by rw[hw5];exact (Below.refl _ _).alloc (Nat.le_refl _) _
 have hP5:Blk w5 gP 26 #[.int .i64 0,.slice none 0 0,.slice (some ⟨gF4,0,none⟩) 1 1]:=by rw[hw5,hgP];exact Blk.new _ _ _
 have hI5:=hI.below hb45 hI.lt;have hF5:=hF.below hb45 hF.lt;have HP5:=Lib.hid hP5;have HI5:=Lib.hid hI5;have HF5:=Lib.hid hF5;have Hb45:=Lib.hid hb45;have Hw5:=Lib.hid hw5;have HgP:=Lib.hid hgP;have p2:w5.cell? ⟨gP,2,none⟩=some (.slice (some ⟨gF4,0,none⟩) 1 1):=hP5.cell 2;have pl:=hP5.lt;have f3:w5.cell? ⟨gF4,3,none⟩=some (.slice (some ⟨gI4,0,none⟩) 4 4):=hF5.cell 3;have fl:=hF5.lt;have i2:w5.cell? ⟨gI4,2,none⟩=some (.int .i64 3):=hI5.cell 2;have i3:w5.cell? ⟨gI4,3,none⟩=some (.int .i64 4):=hI5.cell 3;have if2:=hI5.frozen 2;have if3:=hI5.frozen 3;have il:=hI5.lt;have n1: ¬ gP=gI4:=by have:=hI.lt;omega
 have n2: ¬ gF4=gI4:=fun e=>by
  have h1:=hF;rw[e] at h1;have h2:=h1.symm.trans hI;cases h2
 clear hI hF hlI hlF hb34 hb45 hP5 hI5 hF5 hw5 hgP;go_upto_region 3 with (fail)
 rw[←Hw5.out, ←HgP.out];go_upto_region 5 with (fail)
 obtain ⟨w6,hw6⟩:∃w6,w6=(w5.setCell ⟨gI4,2,none⟩ (.int .i64 4)).setCell ⟨gI4,3,none⟩ (.int .i64 0):=⟨_,rfl⟩;rw[←hw6]
 have hI6:Blk w6 gI4 45 (codeB.flatMap insCells).toArray:=by
  rw[hw6];exact Blk.setL (cs:=[.int .i64 3,.int .i64 3,.int .i64 4,.int .i64 4,.int .i64 21,.int .i64 0,.int .i64 18,.int .i64 0]) (Blk.setL (cs:=[.int .i64 3,.int .i64 3,.int .i64 3,.int .i64 4,.int .i64 21,.int .i64 0,.int .i64 18,.int .i64 0]) HI5.out 2 _) 3 _
 have hO6:Only (fun k=>k=gI4) w5 w6:=by rw[hw6];exact ((Only.refl (fun k=>k=gI4) w5).setCell (p:=⟨gI4,2,none⟩) (.inl rfl) _).setCell (p:=⟨gI4,3,none⟩) (.inl rfl) _
 have hF6:=HF5.out.only hO6 n2;have hP6:=HP5.out.only hO6 n1;have hat6:=small_at (code:=codeB) hI6 hF6 okB (by decide)
 have HR6:=Lib.hid (run_any _ w6 hat6);have p0:w6.cell? ⟨gP,0,none⟩=some (.int .i64 0):=hP6.cell 0;have p1:w6.cell? ⟨gP,1,none⟩=some (.slice none 0 0):=hP6.cell 1;have p26:w6.cell? ⟨gP,2,none⟩=some (.slice (some ⟨gF4,0,none⟩) 1 1):=hP6.cell 2;have pl6:=hP6.lt;have HO6:=Lib.hid hO6;clear hw6 hI6 hO6 hF6 hP6 hat6 p2 pl f3 fl i2 i3 if2 if3 il;clear Hw5;go_wp2_with fail
 refine HR6.out.mono ?_;rintro e w7 ⟨hb7,⟨x,hx,rfl⟩|⟨hs,tops,lps,live,ce,co,HR2,LR,AH',cH',AT',cT',AL',cL',gL',hok,-⟩⟩
 ·obtain rfl:=bad_B hx;have hb67:=hb7;have hz34:=Hb34.out.size;have hz23:=Hb23.out.size;have hOw:Only (fun k=>k=gI4) w3 w7:=((Only.of_fresh (Hb34.out.trans (Hb45.out.mono hz34))).trans HO6.out).trans (Only.of_fresh hb67);have hg1:gA≠gI4:=by have:=HlI.out;have:=HA3.out.lt;omega
  have hg2:gB≠gI4:=by have:=HlI.out;have:=HB3.out.lt;omega
  have hA7:=HA3.out.only hOw hg1;have hB7:=HB3.out.only hOw hg2;have hbh:bh<w3.heap.size:=by have:=Hfa.out.2.1;omega
  have hrb:rb<w3.heap.size:=by have:=Hfa.out.2.2.2;omega
  have q0:w7.cell? ⟨bh,0,none⟩=some (.slice (some ⟨rb,0,none⟩) 4 r.c):=((hOw.cell (p:=⟨bh,0,none⟩) hbh (fun e=>by have:=HlI.out;change bh=gI4 at e;omega)).trans ((bcell Hb23.out).1 _ _ Hfa.out.2.1)).trans Hfa.out.1
  have q2:w7.cell? ⟨rb,2,none⟩=some (.int .i64 2):=((hOw.cell (p:=⟨rb,2,none⟩) hrb (fun e=>by have:=HlI.out;change rb=gI4 at e;omega)).trans ((bcell Hb23.out).1 _ _ Hfa.out.2.2.2)).trans Hfa.out.2.2.1
  have hz7:=hOw.size;have lbh:bh<w7.heap.size:=by omega
  have lrb:rb<w7.heap.size:=by omega
  have a0:w7.cell? ⟨gA,0,none⟩=some (.slice (some ⟨bh,0,none⟩) 1 cH):=hA7.cell 0;have a4:w7.cell? ⟨gA,4,none⟩=some (.int .i64 3):=hA7.cell 4;have a5:w7.cell? ⟨gA,5,none⟩=some (.int .i64 4):=hA7.cell 5;have al:=hA7.lt;have b0:w7.cell? ⟨gB,0,none⟩=some (.int .i64 0):=hB7.cell 0;have bl:=hB7.lt;have HBe:=Lib.hid (show Below w.heap.size w w7 from ((Hb2.out.trans (Hb23.out.mono Hb2.out.size)).trans (hOw.below (B:=w.heap.size) (Nat.le_trans Hb2.out.size hz23) fun k hk e=>by have:=HlI.out;have:=Hb2.out.size;omega)))
  clear hb7 hb67 hx hz34 hz23 hOw hg1 hg2 hA7 hB7 hbh hrb hz7 p0 p1 p26 pl6;dsimp only[faultV,zFacts];go_wp2_with fail
  go_ret
  exact ⟨rfl,(HBe.out.alloc HBe.out.size _).alloc (by have:=HBe.out.size;simp;omega) _⟩
 exact (no_ok_B hok).elim
end
section
section
open Go.RowKit
set_option maxRecDepth 100000 in
set_option maxHeartbeats 1000000 in
theorem all13_any (p:PrgM) (w:World) (hp:PrgAt w p):Calls Try.prog 16 #[p.val] w fun e w'=>(∃x,e= .returned (.int .i64 x))∧Below w.heap.size w w':=by
 obtain ⟨w1,hw1⟩:∃w1,w1=w.alloc (.cells #[.int .i64 p.mem,.slice p.AD p.data.length p.cD,.slice p.AF p.fs.length p.cF] 26):=⟨_,rfl⟩;have hb1:Below w.heap.size w w1:=by rw[hw1];exact (Below.refl _ _).alloc (Nat.le_refl _) _
 have hX1:Blk w1 w.heap.size 26 #[.int .i64 p.mem,.slice p.AD p.data.length p.cD,.slice p.AF p.fs.length p.cF]:=by rw[hw1];exact Blk.new _ _ _
 obtain ⟨gx,hgx⟩:∃g,g=w.heap.size:=⟨_,rfl⟩;rw[←hgx] at hX1;have HX:=Lib.hid hX1;have HP:=Lib.hid (hp.below hb1);have HB:=Lib.hid hb1;have Hw1:=Lib.hid hw1;have Hgx:=Lib.hid hgx;have hfl:p.fs.length≤2932031007402:=hp.flen;have x2:w1.cell? ⟨gx,2,none⟩=some (.slice p.AF p.fs.length p.cF):=hX1.cell 2;have xl:=hX1.lt;clear hp hb1 hX1 hw1 hgx;go_enter Try.func16,Try.ntmps16
 go_wp2_with fail
 rw[←Hw1.out, ←Hgx.out];go_loopw [3,4] (fun n i wr=>∃(k:Nat) (x:Int),k≤p.fs.length∧i= .int .i64 (k:Int)∧n= .int .i64 x∧w1=wr) (fun _ i _=>p.fs.length-(intOf i).toNat)
 case atStart=>exact ⟨0,0,Nat.zero_le _,rfl,rfl,rfl⟩
 rename World=>wr;obtain ⟨k,x,hk,rfl,rfl,rfl⟩:=hrel;by_cases hlt:k<p.fs.length
 ·have g1:(k:Int)<(p.fs.length:Int):=by omega
  by_cases hx:x≤1048576
  ·obtain ⟨g,hgf⟩:∃g,p.fs[k]?=some g:=⟨_,List.getElem?_eq_getElem hlt⟩;obtain ⟨b0,off,hA,hb,q0,q1,q2,q3,hF,hFl⟩:=HP.out.fn hgf;rw[hA] at x2;have HA:=Lib.hid hA;clear hA hF hgf q0 q1 q2;go_wp2_with fail
   refine ⟨⟨k+1,_,by omega,rfl,rfl,trivial⟩,?_⟩
   simp[intOf];omega
  go_wp2_with fail
  go_ret
  exact ⟨⟨x,rfl⟩,HB.out⟩
 obtain rfl:k=p.fs.length:=by omega
 go_wp2_with fail
 go_ret
 exact ⟨⟨x,rfl⟩,HB.out⟩
end
end
section
open Go.RowKit
set_option maxRecDepth 100000 in
set_option maxHeartbeats 20000000 in
theorem checkRuns_walk (p:PrgM) (w:World) (hp:PrgAt w p) (hf7:p.fs.length≤2932031007317):Calls Try.prog 5 #[p.val] w fun e w'=>e= .returned (.bool true)∧Below w.heap.size w w':=by
 have HP:=Lib.hid hp;have Hf7:=Lib.hid hf7;obtain ⟨w1,hw1⟩:∃w1,w1=w.alloc (.cells #[.int .i64 p.mem,.slice p.AD p.data.length p.cD,.slice p.AF p.fs.length p.cF] 26):=⟨_,rfl⟩;have hb1:Below w.heap.size w w1:=by rw[hw1];exact (Below.refl _ _).alloc (Nat.le_refl _) _
 obtain ⟨gx,hgx⟩:∃g,g=w.heap.size:=⟨_,rfl⟩;have hX:Blk w1 gx 26 #[.int .i64 p.mem,.slice p.AD p.data.length p.cD,.slice p.AF p.fs.length p.cF]:=by rw[hw1,hgx];exact Blk.new _ _ _
 have HX:=Lib.hid hX;have HB1:=Lib.hid hb1;have Hw1:=Lib.hid hw1;have Hgx:=Lib.hid hgx;have HA:=Lib.hid (all13_any p w1 (hp.below hb1));have x0:w1.cell? ⟨gx,0,none⟩=some (.int .i64 p.mem):=hX.cell 0;have x1:w1.cell? ⟨gx,1,none⟩=some (.slice p.AD p.data.length p.cD):=hX.cell 1;have x2:w1.cell? ⟨gx,2,none⟩=some (.slice p.AF p.fs.length p.cF):=hX.cell 2;have xl:=hX.lt;clear hp hf7 hb1 hX hw1 hgx;go_enter Try.func5,Try.ntmps5
 go_upto_region 1 with (fail)
 rw[←Hw1.out, ←Hgx.out];clear Hw1;go_wp2_with fail
 refine HA.out.mono ?_;rintro e w2 ⟨⟨x,rfl⟩,hb2⟩;have Hb2:=Lib.hid (HB1.out.trans (hb2.mono HB1.out.size));have hX2:=HX.out.below hb2 HX.out.lt;have y0:w2.cell? ⟨gx,0,none⟩=some (.int .i64 p.mem):=hX2.cell 0;have y1:w2.cell? ⟨gx,1,none⟩=some (.slice p.AD p.data.length p.cD):=hX2.cell 1;have y2:w2.cell? ⟨gx,2,none⟩=some (.slice p.AF p.fs.length p.cF):=hX2.cell 2;have yl:=hX2.lt;have HX2:=Lib.hid hX2;have HP2:=Lib.hid (HP.out.below Hb2.out);have HxB:Hid (w.heap.size≤gx):=Lib.hid (by rw[Hgx.out];exact Nat.le_refl _)
 clear hb2 hX2 x0 x1 x2 xl HA HX;by_cases hbig:4000<x
 ·clear y0 y1 y2 yl;go_wp2_with fail
  refine (head13_any _).mono ?_;rintro e wh ⟨rfl,hbh⟩;have HBh:=Lib.hid (Hb2.out.trans (hbh.mono Hb2.out.size));clear hbh;go_wp2_with fail
  go_ret
  exact ⟨rfl,HBh.out⟩
 have HLd:=Lib.hid (lend13_any p w2 HP2.out Hf7.out);go_wp2_with fail
 refine HLd.out.mono ?_;rintro e w3 ⟨q,rfl,hpl,hLt,hb3⟩;dsimp only[PrgM.val];obtain ⟨gq,hgq⟩:∃g,g=w3.heap.size:=⟨_,rfl⟩;obtain ⟨w4,hw4⟩:∃w4,w4=w3.alloc (.cells #[.int .i64 q.mem,.slice q.AD q.data.length q.cD,.slice q.AF q.fs.length q.cF] 26):=⟨_,rfl⟩;have hb34:Below w3.heap.size w3 w4:=by rw[hw4];exact (Below.refl _ _).alloc (Nat.le_refl _) _
 have hQ4:Blk w4 gq 26 #[.int .i64 q.mem,.slice q.AD q.data.length q.cD,.slice q.AF q.fs.length q.cF]:=by rw[hw4,hgq];exact Blk.new _ _ _
 have Hw4:=Lib.hid hw4;have Hgq:=Lib.hid hgq;have HQ4:=Lib.hid hQ4;have hb24:Below w2.heap.size w2 w4:=hb3.trans (hb34.mono hb3.size);have HX4:=Lib.hid (HX2.out.below hb24 yl);have HL3:=Lib.hid hLt;have HLt:=Lib.hid (hLt.below hb34);have Hpl:=Lib.hid hpl;have HB4:=Lib.hid (show Below w.heap.size w w4 from Hb2.out.trans (hb24.mono Hb2.out.size))
 have Hz3:=Lib.hid (show w2.heap.size≤w3.heap.size∧w3.heap.size≤w4.heap.size∧gq=w3.heap.size from ⟨hb3.size,hb34.size,hgq⟩)
 have HP4:=Lib.hid (HP.out.below HB4.out)
 have hqa:PrgAt w4 q:=by
  have h:=HP4.out.ok;rw[←hpl] at h;exact HLt.out.mine.at_ h
 have HR:=Lib.hid (show Calls Try.prog 13 #[q.val] w4 (OutPost p.plain w4) from (run_any q w4 hqa).mono fun e w' h=>by rw[hpl] at h;exact h.out)
 have q0:w4.cell? ⟨gq,0,none⟩=some (.int .i64 q.mem):=hQ4.cell 0;have q1:w4.cell? ⟨gq,1,none⟩=some (.slice q.AD q.data.length q.cD):=hQ4.cell 1;have q2:w4.cell? ⟨gq,2,none⟩=some (.slice q.AF q.fs.length q.cF):=hQ4.cell 2;have ql:=hQ4.lt;clear hw4 hgq hb34 hb3 hLt hpl hqa hb24 hQ4 y0 y1 y2 yl HLd;go_upto_region 4 with (fail)
 rw[←Hw4.out, ←Hgq.out];clear Hw4;go_wp2_with fail
 refine HR.out.mono ?_;rintro e w5 ⟨A10,A11,A12,A13,n10,n11,n12,n13,c10,c11,c12,c13,ce1,co1,er1,ef1,en1,rfl,hO,hb5⟩;have HO5:=Lib.hid hO;have HbR:=Lib.hid hb5;obtain ⟨w6,hw6⟩:∃w',w'=(w5.alloc (.cells #[.slice A10 n10 c10,.slice A11 n11 c11,.slice A12 n12 c12,.slice A13 n13 c13,.int .i64 ce1,.int .i64 co1] 32)).alloc (.cells #[.int .i64 er1,.int .i64 ef1,.int .i64 en1] 37):=⟨_,rfl⟩;have hb56:Below w5.heap.size w5 w6:=by rw[hw6];exact ((Below.refl _ _).alloc (Nat.le_refl _) _).alloc (by simp) _
 obtain ⟨g4,hg4⟩:∃g,g=w5.heap.size:=⟨_,rfl⟩;obtain ⟨g5,hg5⟩:∃g,g=w5.heap.size+1:=⟨_,rfl⟩;have HF6:=Lib.hid (show Blk w6 g4 32 #[.slice A10 n10 c10,.slice A11 n11 c11,.slice A12 n12 c12,.slice A13 n13 c13,.int .i64 ce1,.int .i64 co1] from by rw[hw6,hg4];exact (Blk.new w5 _ _).alloc _)
 have HE6:=Lib.hid (show Blk w6 g5 37 #[.int .i64 er1,.int .i64 ef1,.int .i64 en1] from by rw[hw6,hg5];exact Blk.new2 _ _ _ _)
 have hb46:Below w4.heap.size w4 w6:=hb5.trans (hb56.mono hb5.size);have HO6:=Lib.hid (hO.below hb56);have hX6:=HX4.out.below hb46 HX4.out.lt;have hQ6:=HQ4.out.below hb46 HQ4.out.lt;have HX6:=Lib.hid hX6;have HB6:=Lib.hid (show Below w.heap.size w w6 from HB4.out.trans (hb46.mono HB4.out.size))
 have Hz6:=Lib.hid (show w4.heap.size≤g4∧w4.heap.size≤g5∧w4.heap.size≤w6.heap.size from ⟨by rw[hg4];exact hb5.size,by rw[hg5];exact Nat.le_succ_of_le hb5.size,hb46.size⟩)
 have HK:=Lib.hid (kept13_only p q w2.heap.size w3 w6 (HP.out.below HB6.out) Hpl.out HL3.out (HLt.out.below hb46) (by have:=Hz3.out;have:=hb46.size;omega) (by have:=Hz3.out;have:=hb46.size;omega))
 have Hw6:=Lib.hid hw6;have Hg4:=Lib.hid hg4;have Hg5:=Lib.hid hg5;have y0:w6.cell? ⟨gx,0,none⟩=some (.int .i64 p.mem):=hX6.cell 0;have y1:w6.cell? ⟨gx,1,none⟩=some (.slice p.AD p.data.length p.cD):=hX6.cell 1;have y2:w6.cell? ⟨gx,2,none⟩=some (.slice p.AF p.fs.length p.cF):=hX6.cell 2;have yl:=hX6.lt;have q0:w6.cell? ⟨gq,0,none⟩=some (.int .i64 q.mem):=hQ6.cell 0;have q1:w6.cell? ⟨gq,1,none⟩=some (.slice q.AD q.data.length q.cD):=hQ6.cell 1;have q2:w6.cell? ⟨gq,2,none⟩=some (.slice q.AF q.fs.length q.cF):=hQ6.cell 2;have ql:=hQ6.lt;clear hO hb5 hw6 hb56 hg4 hg5 hb46 hX6 hQ6 HR;go_upto_region 5 with (fail)
 rw[←Hw6.out, ←Hg5.out, ←Hg4.out];clear Hw6;go_wp2_with fail
 refine HK.out.mono ?_;rintro e w7 ⟨rfl,hO7⟩;have hz7:=hO7.size;have hgxn: ¬ (w2.heap.size≤gx∧gx<w3.heap.size):=fun h=>by have:=HX2.out.lt;omega
 have hX7:=HX6.out.only hO7 hgxn;have HF7:=Lib.hid (HF6.out.only hO7 (fun h=>by have:=Hz6.out;have:=Hz3.out;omega))
 have HE7:=Lib.hid (HE6.out.only hO7 (fun h=>by have:=Hz6.out;have:=Hz3.out;omega))
 have HO7:=Lib.hid (HO6.out.far hO7 (fun b hb _ h=>by have:=Hz3.out;omega))
 have HB7:=Lib.hid (show Below w.heap.size w w7 from HB6.out.trans (hO7.below (B:=w.heap.size) HB6.out.size fun k hk h=>by have:=Hb2.out.size;omega))
 have HP7:=Lib.hid (HP.out.below HB7.out);have HR2:=Lib.hid (show Calls Try.prog 21 #[p.val] w7 (OutPost p.plain w7) from (refRun_any p w7 HP7.out).mono fun e w' h=>h.out)
 clear y0 y1 y2 yl q0 q1 q2 ql;have y0:w7.cell? ⟨gx,0,none⟩=some (.int .i64 p.mem):=hX7.cell 0;have y1:w7.cell? ⟨gx,1,none⟩=some (.slice p.AD p.data.length p.cD):=hX7.cell 1;have y2:w7.cell? ⟨gx,2,none⟩=some (.slice p.AF p.fs.length p.cF):=hX7.cell 2;have yl:=hX7.lt;clear hO7 hz7 hgxn hX7 HK HO6 HF6 HE6 HX6;go_wp2_with fail
 refine HR2.out.mono ?_;rintro e w8 ⟨A20,A21,A22,A23,n20,n21,n22,n23,c20,c21,c22,c23,ce2,co2,er2,ef2,en2,rfl,hO,hb8⟩;obtain ⟨w9,hw9⟩:∃w',w'=(w8.alloc (.cells #[.slice A20 n20 c20,.slice A21 n21 c21,.slice A22 n22 c22,.slice A23 n23 c23,.int .i64 ce2,.int .i64 co2] 32)).alloc (.cells #[.int .i64 er2,.int .i64 ef2,.int .i64 en2] 37):=⟨_,rfl⟩;have hb89:Below w8.heap.size w8 w9:=by rw[hw9];exact ((Below.refl _ _).alloc (Nat.le_refl _) _).alloc (by simp) _
 obtain ⟨g6,hg6⟩:∃g,g=w8.heap.size:=⟨_,rfl⟩;obtain ⟨g7,hg7⟩:∃g,g=w8.heap.size+1:=⟨_,rfl⟩;have hF9:Blk w9 g6 32 #[.slice A20 n20 c20,.slice A21 n21 c21,.slice A22 n22 c22,.slice A23 n23 c23,.int .i64 ce2,.int .i64 co2]:=by rw[hw9,hg6];exact (Blk.new w8 _ _).alloc _
 have hE9:Blk w9 g7 37 #[.int .i64 er2,.int .i64 ef2,.int .i64 en2]:=by rw[hw9,hg7];exact Blk.new2 _ _ _ _
 have hb79:Below w7.heap.size w7 w9:=hb8.trans (hb89.mono hb8.size);obtain ⟨hE,hs,tops,lps,live,ce,co,hV1,hV2,hmh,hml,hmt,hb0⟩:=out_same (HO7.out.below hb79) (hO.below hb89);injection hE with hE
 simp only[Array.mk.injEq,List.cons.injEq,Value.int.injEq,true_and,and_true] at hE;obtain ⟨rfl,rfl,rfl⟩:=hE;have HSF:=Lib.hid (sameFacts_any _ _ hs tops lps live ce co w9 hV1 hV2 hmh hml hmt hb0);have HB9:=Lib.hid (show Below w.heap.size w w9 from HB7.out.trans (hb79.mono HB7.out.size))
 have hF1:=HF7.out.below hb79 HF7.out.lt;have hE1:=HE7.out.below hb79 HE7.out.lt;have a0:w9.cell? ⟨g4,0,none⟩=some (.slice A10 n10 c10):=hF1.cell 0;have a1:w9.cell? ⟨g4,1,none⟩=some (.slice A11 n11 c11):=hF1.cell 1;have a2:w9.cell? ⟨g4,2,none⟩=some (.slice A12 n12 c12):=hF1.cell 2;have a3:w9.cell? ⟨g4,3,none⟩=some (.slice A13 n13 c13):=hF1.cell 3;have a4:w9.cell? ⟨g4,4,none⟩=some (.int .i64 ce1):=hF1.cell 4;have a5:w9.cell? ⟨g4,5,none⟩=some (.int .i64 co1):=hF1.cell 5;have al:=hF1.lt;have b0:w9.cell? ⟨g5,0,none⟩=some (.int .i64 er1):=hE1.cell 0;have b1:w9.cell? ⟨g5,1,none⟩=some (.int .i64 ef1):=hE1.cell 1;have b2:w9.cell? ⟨g5,2,none⟩=some (.int .i64 en1):=hE1.cell 2;have bl:=hE1.lt;have d0:w9.cell? ⟨g6,0,none⟩=some (.slice A20 n20 c20):=hF9.cell 0;have d1:w9.cell? ⟨g6,1,none⟩=some (.slice A21 n21 c21):=hF9.cell 1;have d2:w9.cell? ⟨g6,2,none⟩=some (.slice A22 n22 c22):=hF9.cell 2;have d3:w9.cell? ⟨g6,3,none⟩=some (.slice A23 n23 c23):=hF9.cell 3;have d4:w9.cell? ⟨g6,4,none⟩=some (.int .i64 ce2):=hF9.cell 4;have d5:w9.cell? ⟨g6,5,none⟩=some (.int .i64 co2):=hF9.cell 5;have dl:=hF9.lt;have f0:w9.cell? ⟨g7,0,none⟩=some (.int .i64 er1):=hE9.cell 0;have f1:w9.cell? ⟨g7,1,none⟩=some (.int .i64 ef1):=hE9.cell 1;have f2:w9.cell? ⟨g7,2,none⟩=some (.int .i64 en1):=hE9.cell 2;have fl:=hE9.lt;have Hw9:=Lib.hid hw9;have Hg6:=Lib.hid hg6;have Hg7:=Lib.hid hg7;clear hw9 hb89 hg6 hg7 hF9 hE9 hb79 hO hb8 hV1 hV2 hmh hml hmt hb0 hF1 hE1 HF7 HE7 HO7 HR2 y0 yl;go_upto_region 8 with (fail)
 rw[←Hw9.out, ←Hg7.out, ←Hg6.out];clear Hw9;go_wp2_with fail
 refine HSF.out.mono ?_;rintro e w10 ⟨rfl,hb10⟩;have HB10:=Lib.hid (show Below w.heap.size w w10 from HB9.out.trans (hb10.mono HB9.out.size))
 clear hb10;go_wp2_with fail
 refine (head13_any _).mono ?_;rintro e wh ⟨rfl,hbh⟩;have HBh:=Lib.hid (HB10.out.trans (hbh.mono HB10.out.size));clear hbh;go_wp2_with fail
 go_ret
 exact ⟨rfl,HBh.out⟩
end
end Go.Proofs.Ytcmpmhlcfalbhaa
