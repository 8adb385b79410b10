import Derived.Test.YtcmpmhlcfalbhaaV35
import Derived.Test.YtcmpmhlcfalbhaaV31
import Derived.Test.YtcmpmhlcfalbhaaV09
import Derived.Test.YtcmpmhlcfalbhaaV13
import Derived.Test.YtcmpmhlcfalbhaaV06
import Derived.Test.YtcmpmhlcfalbhaaV01
import Derived.Laws.CopyRow
import Derived.Test.YtcmpmhlcfalbhaaV07
import Derived.Deep.QuietTactic
import Derived.BigQuiet
import Derived.Test.YtcmpmhlcfalbhaaV04
import Derived.Test.YtcmpmhlcfalbhaaV05
namespace Go.Proofs.Ytcmpmhlcfalbhaa
section
open Go.RowKit
theorem small_at {w:World} {gI gF:Nat} {code:List Ins} (hI:Blk w gI 45 (code.flatMap insCells).toArray) (hF:Blk w gF 43 #[.int .i64 0,.int .i64 0,.int .i64 1,.slice (some ⟨gI,0,none⟩) code.length 4]) (hok:∀i∈code,InsOk i) (hl:code.length≤100):
  PrgAt w ⟨0,none,0,[],some ⟨gF,0,none⟩,1,[⟨0,0,1,some ⟨gI,0,none⟩,4,code⟩]⟩:=by
 refine ⟨⟨.inl rfl,(fun _=>⟨rfl,rfl⟩)⟩,of_decide_eq_true rfl,RV.of_blk hF,(fun e=>by cases e),of_decide_eq_true rfl,(fun f hf=>?_),of_decide_eq_true rfl,of_decide_eq_true rfl⟩
 rw[List.mem_singleton.1 hf]
 exact ⟨RV.of_blk hI,hok,(fun e=>by cases e),by dsimp only;omega,of_decide_eq_true rfl,of_decide_eq_true rfl,of_decide_eq_true rfl,of_decide_eq_true rfl,of_decide_eq_true rfl,of_decide_eq_true rfl⟩
def Small13 (w:World) (e:Ending) (w':World):Prop:=∃gI gF,e= .returned (.agg #[.int .i64 0,.slice none 0 0,.slice (some ⟨gF,0,none⟩) 1 1])∧Blk w' gI 45 (codeA.flatMap insCells).toArray∧Blk w' gF 43 #[.int .i64 0,.int .i64 0,.int .i64 1,.slice (some ⟨gI,0,none⟩) 4 4]∧w.heap.size≤gI∧w.heap.size≤gF∧Below w.heap.size w w'
set_option maxRecDepth 100000 in
theorem small13_any (w:World):Calls Try.prog 41 #[] w (Small13 w):=by
 go_enter Try.func41,Try.ntmps41
 go_wp2_with fail
 have h3:=blk3 w #[.int .i64 0,.slice none 0 0,.slice (some ⟨w.heap.size+1+1,0,none⟩) 1 1] (codeA.flatMap insCells).toArray #[.int .i64 0,.int .i64 0,.int .i64 1,.slice (some ⟨w.heap.size+1,0,none⟩) 4 4] 26 45 43;obtain ⟨w1,hw1⟩:∃w1,w1=((w.alloc (.cells #[.int .i64 0,.slice none 0 0,.slice (some ⟨w.heap.size+1+1,0,none⟩) 1 1] 26)).alloc (.cells (codeA.flatMap insCells).toArray 45)).alloc (.cells #[.int .i64 0,.int .i64 0,.int .i64 1,.slice (some ⟨w.heap.size+1,0,none⟩) 4 4] 43):=⟨_,rfl⟩;have hb1:Below w.heap.size w w1:=by rw[hw1];exact (((Below.refl _ _).alloc (Nat.le_refl _) _).alloc (by simp) _).alloc (by simp;omega) _
 rw[←hw1] at h3;have e:(codeA.flatMap insCells).toArray=#[.int .i64 3,.int .i64 3,.int .i64 3,.int .i64 4,.int .i64 21,.int .i64 0,.int .i64 18,.int .i64 0]:=rfl;rw[e] at hw1;rw[←hw1];obtain ⟨h0,h1,h2⟩:=h3;have c0:w1.cell? ⟨w.heap.size,0,none⟩=some (.int .i64 0):=h0.cell 0;have c1:w1.cell? ⟨w.heap.size,1,none⟩=some (.slice none 0 0):=h0.cell 1;have c2:w1.cell? ⟨w.heap.size,2,none⟩=some (.slice (some ⟨w.heap.size+1+1,0,none⟩) 1 1):=h0.cell 2;have hl0:=h0.lt;refine bodyPost_ret (v:=.agg #[.int .i64 0,.slice none 0 0,.slice (some ⟨w.heap.size+1+1,0,none⟩) 1 1]) ?_ rfl ⟨w.heap.size+1,w.heap.size+1+1,rfl,h1,h2,by omega,by omega,hb1⟩
 simp[results,Try.results41,go_sem,c0,c1,c2]
theorem okA:∀i∈codeA,InsOk i:=fun i hi=>by simp only[codeA,List.mem_cons,List.not_mem_nil,or_false] at hi;rcases hi with rfl|rfl|rfl|rfl<;>exact ⟨by decide,by decide,by decide,by decide⟩
theorem okB:∀i∈codeB,InsOk i:=fun i hi=>by simp only[codeB,List.mem_cons,List.not_mem_nil,or_false] at hi;rcases hi with rfl|rfl|rfl|rfl<;>exact ⟨by decide,by decide,by decide,by decide⟩
set_option maxRecDepth 100000 in
set_option maxHeartbeats 1000000 in
theorem head13_any (w:World):Calls Try.prog 15 #[] w fun e w'=>e= .returned (.bool true)∧Below w.heap.size w w':=by
 go_enter Try.func15,Try.ntmps15
 go_wp2_with fail
 refine (small13_any w).mono ?_;rintro e w1 ⟨gI,gF,rfl,hI,hF,hlI,hlF,hb1⟩;have hat:=small_at (code:=codeA) hI hF okA (by decide)
 have HR:=Lib.hid (run_any _ w1 hat);have Hb1:=Lib.hid hb1;clear hI hF hlI hlF hb1 hat;go_wp2_with fail
 refine HR.out.mono ?_;rintro e w2 ⟨hb2,⟨x,hx,-⟩|⟨hs,tops,lps,live,ce,co,HR2,LR,AH,cH,AT,cT,AL,cL,gL,hok,hM,hL,rfl⟩⟩
 ·exact absurd hx no_bad_A
 obtain ⟨rfl,rfl,rfl⟩:=ok_A hok;obtain ⟨bh,r,rfl,-,hbh,hch,hO⟩:=rows_at hM.hh hM.sh hM.oh (f:=0) (by decide)
 obtain ⟨rb,hrA,-,hrb,hrc⟩:=own_pos hO (by decide)
 have hr2:=hrc 2 (.int .i64 2) rfl;rw[hrA] at hch;have Hb2:=Lib.hid (Hb1.out.trans (hb2.mono Hb1.out.size));have Hfa:=Lib.hid (show w2.cell? ⟨bh,0,none⟩=some (.slice (some ⟨rb,0,none⟩) 4 r.c)∧bh<w2.heap.size∧w2.cell? ⟨rb,2,none⟩=some (.int .i64 2)∧rb<w2.heap.size from ⟨hch,hbh,hr2,hrb⟩)
 obtain ⟨nt,hnt⟩:∃x,x=tops.length:=⟨_,rfl⟩;obtain ⟨nl,hnl⟩:∃x,x=lps.length:=⟨_,rfl⟩;obtain ⟨nv,hnv⟩:∃x,x=live.length:=⟨_,rfl⟩;rw[←hnt, ←hnl, ←hnv];clear hb2 hok hM hL hch hbh hO hrb hrc hr2 hrA hnt hnl hnv HR;dsimp only[faultV,List.length];go_wp2_with fail
 obtain ⟨w3,hw3⟩:∃w3,w3=(w2.alloc (.cells #[.slice (some ⟨bh,0,none⟩) 1 cH,.slice AT nt cT,.slice AL nl cL,.slice (some ⟨gL,0,none⟩) nv nv,.int .i64 3,.int .i64 4] 32)).alloc (.cells #[.int .i64 0,.int .i64 0,.int .i64 0] 37):=⟨_,rfl⟩;rw[←hw3];have hb23:Below w2.heap.size w2 w3:=by rw[hw3];exact ((Below.refl _ _).alloc (Nat.le_refl _) _).alloc (by simp) _
 obtain ⟨gA,hgA⟩:∃g,g=w2.heap.size:=⟨_,rfl⟩;obtain ⟨gB,hgB⟩:∃g,g=w2.heap.size+1:=⟨_,rfl⟩;rw[←hgB, ←hgA];have hA3:Blk w3 gA 32 #[.slice (some ⟨bh,0,none⟩) 1 cH,.slice AT nt cT,.slice AL nl cL,.slice (some ⟨gL,0,none⟩) nv nv,.int .i64 3,.int .i64 4]:=by rw[hw3,hgA];exact (Blk.new w2 _ _).alloc _
 have hB3:Blk w3 gB 37 #[.int .i64 0,.int .i64 0,.int .i64 0]:=by rw[hw3,hgB];exact Blk.new2 _ _ _ _
 have HA3:=Lib.hid hA3;have HB3:=Lib.hid hB3;have Hb23:=Lib.hid hb23;have HgA:=Lib.hid hgA;have HgB:=Lib.hid hgB;clear hw3 hb23 hA3 hB3 hgA hgB Hb1;refine (small13_any w3).mono ?_;rintro e w4 ⟨gI4,gF4,rfl,hI,hF,hlI,hlF,hb34⟩;have HI4:=Lib.hid hI;have HF4:=Lib.hid hF;have Hb34:=Lib.hid hb34;have HlI:=Lib.hid hlI;have HlF:=Lib.hid hlF;obtain ⟨gP,hgP⟩:∃g,g=w4.heap.size:=⟨_,rfl⟩;obtain ⟨w5,hw5⟩:∃w5,w5=w4.alloc (.cells #[.int .i64 0,.slice none 0 0,.slice (some ⟨gF4,0,none⟩) 1 1] 26):=⟨_,rfl⟩;have hb45:Below w4.heap.size w4 w5:=by rw[hw5];exact (Below.refl _ _).alloc (Nat.le_refl _) _
 have hP5:Blk w5 gP 26 #[.int .i64 0,.slice none 0 0,.slice (some ⟨gF4,0,none⟩) 1 1]:=by rw[hw5,hgP];exact Blk.new _ _ _
 have hI5:=hI.below hb45 hI.lt;have hF5:=hF.below hb45 hF.lt;have HP5:=Lib.hid hP5;have HI5:=Lib.hid hI5;have HF5:=Lib.hid hF5;have Hb45:=Lib.hid hb45;have Hw5:=Lib.hid hw5;have HgP:=Lib.hid hgP;have p2:w5.cell? ⟨gP,2,none⟩=some (.slice (some ⟨gF4,0,none⟩) 1 1):=hP5.cell 2;have pl:=hP5.lt;have f3:w5.cell? ⟨gF4,3,none⟩=some (.slice (some ⟨gI4,0,none⟩) 4 4):=hF5.cell 3;have fl:=hF5.lt;have i2:w5.cell? ⟨gI4,2,none⟩=some (.int .i64 3):=hI5.cell 2;have i3:w5.cell? ⟨gI4,3,none⟩=some (.int .i64 4):=hI5.cell 3;have if2:=hI5.frozen 2;have if3:=hI5.frozen 3;have il:=hI5.lt;have n1: ¬ gP=gI4:=by have:=hI.lt;omega
 have n2: ¬ gF4=gI4:=fun e=>by
  have h1:=hF;rw[e] at h1;have h2:=h1.symm.trans hI;cases h2
 clear hI hF hlI hlF hb34 hb45 hP5 hI5 hF5 hw5 hgP;go_upto_region 3 with (fail)
 rw[←Hw5.out, ←HgP.out];go_upto_region 5 with (fail)
 obtain ⟨w6,hw6⟩:∃w6,w6=(w5.setCell ⟨gI4,2,none⟩ (.int .i64 4)).setCell ⟨gI4,3,none⟩ (.int .i64 0):=⟨_,rfl⟩;rw[←hw6]
 have hI6:Blk w6 gI4 45 (codeB.flatMap insCells).toArray:=by
  rw[hw6];exact Blk.setL (cs:=[.int .i64 3,.int .i64 3,.int .i64 4,.int .i64 4,.int .i64 21,.int .i64 0,.int .i64 18,.int .i64 0]) (Blk.setL (cs:=[.int .i64 3,.int .i64 3,.int .i64 3,.int .i64 4,.int .i64 21,.int .i64 0,.int .i64 18,.int .i64 0]) HI5.out 2 _) 3 _
 have hO6:Only (fun k=>k=gI4) w5 w6:=by rw[hw6];exact ((Only.refl (fun k=>k=gI4) w5).setCell (p:=⟨gI4,2,none⟩) (.inl rfl) _).setCell (p:=⟨gI4,3,none⟩) (.inl rfl) _
 have hF6:=HF5.out.only hO6 n2;have hP6:=HP5.out.only hO6 n1;have hat6:=small_at (code:=codeB) hI6 hF6 okB (by decide)
 have HR6:=Lib.hid (run_any _ w6 hat6);have p0:w6.cell? ⟨gP,0,none⟩=some (.int .i64 0):=hP6.cell 0;have p1:w6.cell? ⟨gP,1,none⟩=some (.slice none 0 0):=hP6.cell 1;have p26:w6.cell? ⟨gP,2,none⟩=some (.slice (some ⟨gF4,0,none⟩) 1 1):=hP6.cell 2;have pl6:=hP6.lt;have HO6:=Lib.hid hO6;clear hw6 hI6 hO6 hF6 hP6 hat6 p2 pl f3 fl i2 i3 if2 if3 il;clear Hw5;go_wp2_with fail
 refine HR6.out.mono ?_;rintro e w7 ⟨hb7,⟨x,hx,rfl⟩|⟨hs,tops,lps,live,ce,co,HR2,LR,AH',cH',AT',cT',AL',cL',gL',hok,-⟩⟩
 ·obtain rfl:=bad_B hx;have hb67:=hb7;have hz34:=Hb34.out.size;have hz23:=Hb23.out.size;have hOw:Only (fun k=>k=gI4) w3 w7:=((Only.of_fresh (Hb34.out.trans (Hb45.out.mono hz34))).trans HO6.out).trans (Only.of_fresh hb67);have hg1:gA≠gI4:=by have:=HlI.out;have:=HA3.out.lt;omega
  have hg2:gB≠gI4:=by have:=HlI.out;have:=HB3.out.lt;omega
  have hA7:=HA3.out.only hOw hg1;have hB7:=HB3.out.only hOw hg2;have hbh:bh<w3.heap.size:=by have:=Hfa.out.2.1;omega
  have hrb:rb<w3.heap.size:=by have:=Hfa.out.2.2.2;omega
  have q0:w7.cell? ⟨bh,0,none⟩=some (.slice (some ⟨rb,0,none⟩) 4 r.c):=((hOw.cell (p:=⟨bh,0,none⟩) hbh (fun e=>by have:=HlI.out;change bh=gI4 at e;omega)).trans ((bcell Hb23.out).1 _ _ Hfa.out.2.1)).trans Hfa.out.1
  have q2:w7.cell? ⟨rb,2,none⟩=some (.int .i64 2):=((hOw.cell (p:=⟨rb,2,none⟩) hrb (fun e=>by have:=HlI.out;change rb=gI4 at e;omega)).trans ((bcell Hb23.out).1 _ _ Hfa.out.2.2.2)).trans Hfa.out.2.2.1
  have hz7:=hOw.size;have lbh:bh<w7.heap.size:=by omega
  have lrb:rb<w7.heap.size:=by omega
  have a0:w7.cell? ⟨gA,0,none⟩=some (.slice (some ⟨bh,0,none⟩) 1 cH):=hA7.cell 0;have a4:w7.cell? ⟨gA,4,none⟩=some (.int .i64 3):=hA7.cell 4;have a5:w7.cell? ⟨gA,5,none⟩=some (.int .i64 4):=hA7.cell 5;have al:=hA7.lt;have b0:w7.cell? ⟨gB,0,none⟩=some (.int .i64 0):=hB7.cell 0;have bl:=hB7.lt;have HBe:=Lib.hid (show Below w.heap.size w w7 from ((Hb2.out.trans (Hb23.out.mono Hb2.out.size)).trans (hOw.below (B:=w.heap.size) (Nat.le_trans Hb2.out.size hz23) fun k hk e=>by have:=HlI.out;have:=Hb2.out.size;omega)))
  clear hb7 hb67 hx hz34 hz23 hOw hg1 hg2 hA7 hB7 hbh hrb hz7 p0 p1 p26 pl6;dsimp only[faultV,zFacts];go_wp2_with fail
  go_ret
  exact ⟨rfl,(HBe.out.alloc HBe.out.size _).alloc (by have:=HBe.out.size;simp;omega) _⟩
 exact (no_ok_B hok).elim
end
section
section
open Go.RowKit
set_option maxRecDepth 100000 in
set_option maxHeartbeats 1000000 in
theorem all13_any (p:PrgM) (w:World) (hp:PrgAt w p):Calls Try.prog 16 #[p.val] w fun e w'=>(∃x,e= .returned (.int .i64 x))∧Below w.heap.size w w':=by
 obtain ⟨w1,hw1⟩:∃w1,w1=w.alloc (.cells #[.int .i64 p.mem,.slice p.AD p.data.length p.cD,.slice p.AF p.fs.length p.cF] 26):=⟨_,rfl⟩;have hb1:Below w.heap.size w w1:=by rw[hw1];exact (Below.refl _ _).alloc (Nat.le_refl _) _
 have hX1:Blk w1 w.heap.size 26 #[.int .i64 p.mem,.slice p.AD p.data.length p.cD,.slice p.AF p.fs.length p.cF]:=by rw[hw1];exact Blk.new _ _ _
 obtain ⟨gx,hgx⟩:∃g,g=w.heap.size:=⟨_,rfl⟩;rw[←hgx] at hX1;have HX:=Lib.hid hX1;have HP:=Lib.hid (hp.below hb1);have HB:=Lib.hid hb1;have Hw1:=Lib.hid hw1;have Hgx:=Lib.hid hgx;have hfl:p.fs.length≤2932031007402:=hp.flen;have x2:w1.cell? ⟨gx,2,none⟩=some (.slice p.AF p.fs.length p.cF):=hX1.cell 2;have xl:=hX1.lt;clear hp hb1 hX1 hw1 hgx;go_enter Try.func16,Try.ntmps16
 go_wp2_with fail
 rw[←Hw1.out, ←Hgx.out];go_loopw [3,4] (fun n i wr=>∃(k:Nat) (x:Int),k≤p.fs.length∧i= .int .i64 (k:Int)∧n= .int .i64 x∧w1=wr) (fun _ i _=>p.fs.length-(intOf i).toNat)
 case atStart=>exact ⟨0,0,Nat.zero_le _,rfl,rfl,rfl⟩
 rename World=>wr;obtain ⟨k,x,hk,rfl,rfl,rfl⟩:=hrel;by_cases hlt:k<p.fs.length
 ·have g1:(k:Int)<(p.fs.length:Int):=by omega
  by_cases hx:x≤1048576
  ·obtain ⟨g,hgf⟩:∃g,p.fs[k]?=some g:=⟨_,List.getElem?_eq_getElem hlt⟩;obtain ⟨b0,off,hA,hb,q0,q1,q2,q3,hF,hFl⟩:=HP.out.fn hgf;rw[hA] at x2;have HA:=Lib.hid hA;clear hA hF hgf q0 q1 q2;go_wp2_with fail
   refine ⟨⟨k+1,_,by omega,rfl,rfl,trivial⟩,?_⟩
   simp[intOf];omega
  go_wp2_with fail
  go_ret
  exact ⟨⟨x,rfl⟩,HB.out⟩
 obtain rfl:k=p.fs.length:=by omega
 go_wp2_with fail
 go_ret
 exact ⟨⟨x,rfl⟩,HB.out⟩
end
end
section
open Go.RowKit
def ApartF (fs:List FunM):Prop:=∀(i j:Nat) (f g:FunM),fs[i]?=some f→fs[j]?=some g→i≠j→∀b,f.A.map (·.block)=some b→g.A.map (·.block)≠some b
theorem ApartF.nil:ApartF []:=fun i j f g h=>by cases h
theorem ApartF.push {fs:List FunM} {x:FunM} (n:Nat) (h:ApartF fs) (hlt:∀f∈fs,∀b,f.A.map (·.block)=some b→b<n) (hx:∀b,x.A.map (·.block)=some b→n≤b):ApartF (fs++[x]):=by
 intro i j f g hi hj hij b hb1 hb2
 have key:∀(k:Nat) (y:FunM),(fs++[x])[k]?=some y→fs[k]?=some y∨(k=fs.length∧y=x):=by
  intro k y hk;by_cases h1:k<fs.length
  ·rw[List.getElem?_append_left h1] at hk;exact .inl hk
  rw[List.getElem?_append_right (by omega)] at hk
  obtain h2|h2:k-fs.length=0∨0<k-fs.length:=by omega
  ·rw[h2] at hk;injection hk with hk
   exact .inr ⟨by omega,hk.symm⟩
  rw[List.getElem?_eq_none (by rw[List.length_singleton];exact h2)] at hk
  cases hk
 rcases key i f hi with h1|⟨h1,rfl⟩
 ·rcases key j g hj with h2|⟨h2,rfl⟩
  ·exact h i j f g h1 h2 hij b hb1 hb2
  have:=hlt f (List.mem_of_getElem? h1) b hb1;have:=hx b hb2;omega
 rcases key j g hj with h2|⟨h2,rfl⟩
 ·have:=hlt g (List.mem_of_getElem? h2) b hb2;have:=hx b hb1;omega
 omega
structure PrgOwn (w:World) (base:Nat) (p:PrgM):Prop where
 data:OwnB w base p.AD p.data.length p.cD p.data
 funs:Own w base 43 4 p.AF p.fs.length p.cF (p.fs.flatMap funCells)
 code:∀f∈p.fs,Own w base 45 2 f.A f.code.length f.c (f.code.flatMap insCells)
 ok:∀f∈p.fs,(∀i∈f.code,InsOk i)∧f.code.length≤4096∧0≤f.args∧f.args≤9223372036854775807∧0≤f.locals∧f.locals≤9223372036854775807∧0≤f.results∧f.results≤9223372036854775807
 m1:0≤p.mem
 m2:p.mem≤9223372036854775807
 dlen:p.data.length≤140737488351232
 flen:p.fs.length≤64
 apart:ApartF p.fs
theorem PrgOwn.only {S:Nat→Prop} {w w':World} {base:Nat} {p:PrgM} (h:PrgOwn w base p) (ho:Only S w w') (hS:∀b,base≤b→b<w.heap.size→¬ S b):PrgOwn w' base p:=
 ⟨Own.only h.data ho fun b o e=>hS b (Own.lt h.data b o e).1 (Own.lt h.data b o e).2.1,Own.only h.funs ho fun b o e=>hS b (Own.lt h.funs b o e).1 (Own.lt h.funs b o e).2.1,
  fun f hf=>Own.only (h.code f hf) ho fun b o e=>hS b (Own.lt (h.code f hf) b o e).1 (Own.lt (h.code f hf) b o e).2.1,h.ok,h.m1,h.m2,h.dlen,h.flen,h.apart⟩
theorem PrgOwn.below {w w':World} {base:Nat} {p:PrgM} (h:PrgOwn w base p) (hb:Below w.heap.size w w'):PrgOwn w' base p:=h.only (S:=fun _=>False) (Only.of_fresh hb) fun _ _ _ h=>h
theorem PrgOwn.mono {w:World} {base base':Nat} {p:PrgM} (h:PrgOwn w base p) (hb:base'≤base):PrgOwn w base' p:=
 ⟨h.data.mono hb,h.funs.mono hb,fun f hf=>(h.code f hf).mono hb,h.ok,h.m1,h.m2,h.dlen,h.flen,h.apart⟩
theorem own_nil {w:World} {base size n c:Nat} {e:TypeId} {A:Option Addr} {vs:List Value} (h:Own w base e size A n c vs) (hA:A=none):n=0∧c=0:=by
 rcases h.2 with ⟨hv,hn⟩|⟨g,cap,cur,hv,_⟩
 ·injection hv with _ h2 h3
  exact ⟨h2,h3⟩
 injection hv with h1;rw[hA] at h1;cases h1
theorem PrgOwn.at_ {w:World} {base:Nat} {p:PrgM} (h:PrgOwn w base p):PrgAt w p:=
 ⟨Sl.of_own h.data,h.dlen,RV.of_own h.funs,fun e=>own_nil h.funs e,by have:=h.flen;omega,fun f hf=>by
  obtain ⟨h1,h2,h3,h4,h5,h6,h7,h8⟩:=h.ok f hf;exact ⟨RV.of_own (h.code f hf),h1,fun e=>own_nil (h.code f hf) e,by omega,by omega,h4,by omega,h6,by omega,h8⟩,by have:=h.m1;omega,h.m2⟩
end
section
section
open Go.RowKit
section
variable {P:Program}
end
end
section
open Go.RowKit
theorem insCells_set:∀(ls:List Ins) (i:Nat) (x:Ins),i<ls.length→((ls.flatMap insCells).set (i*2) (.int .i64 x.op)).set (i*2+1) (.int .i64 x.a)=(ls.set i x).flatMap insCells:=by
 intro ls;induction ls with
 |nil=>intro i x h;cases h
 |cons y ls ih=>
  intro i x h;cases i with
  |zero=>rfl
  |succ i=>
   rw[List.set_cons_succ,List.flatMap_cons,List.flatMap_cons, ←ih i x (by simpa using h),show (i+1)*2=i*2+2 from by omega]
   rfl
abbrev BlkI (w:World) (g:Nat) (ls:List Ins):Prop:=Blk w g 45 (ls.flatMap insCells).toArray
theorem BlkI.put {w:World} {g:Nat} {ls:List Ins} (h:BlkI w g ls) (i:Nat) (hi:i<ls.length) (x:Ins):BlkI ((w.setCell ⟨g,i*2,none⟩ (.int .i64 x.op)).setCell ⟨g,i*2+1,none⟩ (.int .i64 x.a)) g (ls.set i x):=by
 have h1:=(Blk.setL h (i*2) (.int .i64 x.op)).setL (i*2+1) (.int .i64 x.a);rwa [insCells_set ls i x hi] at h1
theorem BlkI.at_ {w:World} {g:Nat} {ls:List Ins} (h:BlkI w g ls) (i:Nat) (hi:i<ls.length):w.cell? ⟨g,i*2,none⟩=some (.int .i64 (ls[i]).op)∧w.cell? ⟨g,i*2+1,none⟩=some (.int .i64 (ls[i]).a):=by
 have h0:=insCells_get ls i 0 hi (by omega)
 have h1:=insCells_get ls i 1 hi (by omega)
 exact ⟨by rw[Blk.at_ h];exact h0,by rw[Blk.at_ h];exact h1⟩
theorem BlkI.rv {w:World} {g:Nat} {ls:List Ins} (h:BlkI w g ls) (n:Nat) (hn:n≤ls.length):RV w (some ⟨g,0,none⟩) ((ls.take n).flatMap insCells):=by
 have h1:RV w (some ⟨g,0,none⟩) (ls.flatMap insCells):=by simpa using RV.of_blk h
 have h2:=h1.cut 0 (n*2);rw[Nat.add_zero,List.drop_zero] at h2
 have e:(ls.flatMap insCells).take (n*2)=(ls.take n).flatMap insCells:=by
  conv=>lhs;rw[←List.take_append_drop n ls,List.flatMap_append]
  rw[List.take_append_of_le_length (by rw[insCells_len,List.length_take];omega),List.take_of_length_le (by rw[insCells_len,List.length_take];omega)]
 rwa [e] at h2
end
end
section
open Go.RowKit
theorem fun_info:(Try.prog.info? 43).map (fun i=>(i.zero,i.size,i.bytes))=some (some (.agg #[.int .i64 0,.int .i64 0,.int .i64 0,.slice none 0 0]),4,48):=by kernel_rfl
theorem eFun:Elem Try.prog 24 43 4 48:=elem_of Try.underlying24 fun_info rfl (by decide)
end
section
open Go.RowKit
end
section
open Go.RowKit
def lentP (bs:List UInt8):List UInt8:=bs++List.replicate 5 0xC9
end
section
open Go.RowKit
abbrev markF:FunM:=⟨-9,0,0,none,0,[]⟩
abbrev BlkF (w:World) (g:Nat) (ls:List FunM):Prop:=Blk w g 43 (ls.flatMap funCells).toArray
theorem funCells_set:∀(ls:List FunM) (i:Nat) (x:FunM),i<ls.length→
  ((((ls.flatMap funCells).set (i*4) (.int .i64 x.args)).set (i*4+1) (.int .i64 x.locals)).set (i*4+2) (.int .i64 x.results)).set (i*4+3) (.slice x.A x.code.length x.c)=(ls.set i x).flatMap funCells:=by
 intro ls
 induction ls with
 |nil=>intro i x h;cases h
 |cons y ls ih=>
  intro i x h;cases i with
  |zero=>rfl
  |succ i=>
   rw[List.set_cons_succ,List.flatMap_cons,List.flatMap_cons, ←ih i x (by simpa using h),show (i+1)*4=i*4+4 from by omega]
   rfl
theorem BlkF.put {w:World} {g:Nat} {ls:List FunM} (h:BlkF w g ls) (i:Nat) (hi:i<ls.length) (x:FunM):
  BlkF ((((w.setCell ⟨g,i*4,none⟩ (.int .i64 x.args)).setCell ⟨g,i*4+1,none⟩ (.int .i64 x.locals)).setCell ⟨g,i*4+2,none⟩ (.int .i64 x.results)).setCell ⟨g,i*4+3,none⟩ (.slice x.A x.code.length x.c)) g (ls.set i x):=by
 have h1:=(((Blk.setL h (i*4) (.int .i64 x.args)).setL (i*4+1) (.int .i64 x.locals)).setL (i*4+2) (.int .i64 x.results)).setL (i*4+3) (.slice x.A x.code.length x.c)
 rwa [funCells_set ls i x hi] at h1
theorem BlkF.at_ {w:World} {g:Nat} {ls:List FunM} (h:BlkF w g ls) (i:Nat) (hi:i<ls.length):
  w.cell? ⟨g,i*4,none⟩=some (.int .i64 ls[i].args)∧w.cell? ⟨g,i*4+1,none⟩=some (.int .i64 ls[i].locals)∧w.cell? ⟨g,i*4+2,none⟩=some (.int .i64 ls[i].results)∧w.cell? ⟨g,i*4+3,none⟩=some (.slice ls[i].A ls[i].code.length ls[i].c):=by
 have h0:=funCells_get ls i 0 hi (by omega)
 have h1:=funCells_get ls i 1 hi (by omega)
 have h2:=funCells_get ls i 2 hi (by omega)
 have h3:=funCells_get ls i 3 hi (by omega)
 exact ⟨by rw[Blk.at_ h];exact h0,by rw[Blk.at_ h];exact h1,by rw[Blk.at_ h];exact h2,by rw[Blk.at_ h];exact h3⟩
theorem BlkF.rv {w:World} {g:Nat} {ls:List FunM} (h:BlkF w g ls) (n:Nat) (hn:n≤ls.length):RV w (some ⟨g,0,none⟩) ((ls.take n).flatMap funCells):=by
 have h1:RV w (some ⟨g,0,none⟩) (ls.flatMap funCells):=by simpa using RV.of_blk h
 have h2:=h1.cut 0 (n*4);rw[Nat.add_zero,List.drop_zero] at h2
 have e:(ls.flatMap funCells).take (n*4)=(ls.take n).flatMap funCells:=by
  conv=>lhs;rw[←List.take_append_drop n ls,List.flatMap_append]
  rw[List.take_append_of_le_length (by rw[funCells_len,List.length_take];omega),List.take_of_length_le (by rw[funCells_len,List.length_take];omega)]
 rwa [e] at h2
def lentC (l:List Ins) (k:Nat):List Ins:=l++(List.replicate k ⟨-9,0⟩++List.replicate (3-k) ⟨0,0⟩)
theorem length_lentC (l:List Ins) (k:Nat) (h:k≤3):(lentC l k).length=l.length+3:=by
 simp only[lentC,List.length_append,List.length_replicate];omega
theorem lentC_take (l:List Ins):(lentC l 3).take l.length=l:=by
 unfold lentC;rw[List.take_append_of_le_length (Nat.le_refl _),List.take_length]
def LentF (w:World) (base gf:Nat) (f g:FunM):Prop:=
 ∃b,g=⟨f.args,f.locals,f.results,some ⟨b,0,none⟩,f.code.length+3,f.code⟩∧BlkI w b (lentC f.code 3)∧base≤b∧b≠gf
def LentR (w:World) (base gf:Nat) (fs hs:List FunM):Prop:=∀(j:Nat) (g:FunM),hs[j]?=some g→∃f,fs[j]?=some f∧LentF w base gf f g
theorem LentR.keep {w w':World} {base gf:Nat} {fs hs:List FunM} (h:LentR w base gf fs hs) (S:Nat→Prop) (ho:Only S w w') (hS:∀b,base≤b→b<w.heap.size→S b→b=gf):LentR w' base gf fs hs:=by
 intro j g hj;obtain ⟨f,hf,b,e,hb,h1,h2⟩:=h j g hj;exact ⟨f,hf,b,e,hb.only ho (fun hs=>h2 (hS b h1 hb.lt hs)),h1,h2⟩
theorem LentR.mono {w:World} {base base' gf:Nat} {fs hs:List FunM} (h:LentR w base gf fs hs) (hb:base'≤base):LentR w base' gf fs hs:=by
 intro j g hj;obtain ⟨f,hf,b,e,hb',h1,h2⟩:=h j g hj;exact ⟨f,hf,b,e,hb',Nat.le_trans hb h1,h2⟩
theorem LentR.push {w:World} {base gf:Nat} {fs hs:List FunM} (h:LentR w base gf fs hs) {f g:FunM} (hf:fs[hs.length]?=some f) (hg:LentF w base gf f g):LentR w base gf fs (hs++[g]):=by
 intro j x hj;by_cases h1:j<hs.length
 ·rw[List.getElem?_append_left h1] at hj;exact h j x hj
 rw[List.getElem?_append_right (by omega)] at hj
 obtain h2|h2:j-hs.length=0∨0<j-hs.length:=by omega
 ·rw[h2] at hj;injection hj with hj
  subst hj;rw[show j=hs.length from by omega]
  exact ⟨f,hf,hg⟩
 rw[List.getElem?_eq_none (by rw[List.length_singleton];exact h2)] at hj
 cases hj
structure LentAt (w:World) (base:Nat) (p q:PrgM) (gd gf:Nat):Prop where
 mem:q.mem=p.mem
 data:q.data=p.data
 AD:q.AD=some ⟨gd,0,none⟩
 cD:q.cD=p.data.length+5
 bd:Blk w gd 5 ((lentP p.data).map bv).toArray
 AF:q.AF=some ⟨gf,0,none⟩
 cF:q.cF=p.fs.length+2
 flen:q.fs.length=p.fs.length
 bf:BlkF w gf (q.fs++[markF,markF])
 row:LentR w base gf p.fs q.fs
 b1:base≤gd
 b2:base≤gf
theorem LentAt.below {w w':World} {base gd gf:Nat} {p q:PrgM} (h:LentAt w base p q gd gf) (hb:Below w.heap.size w w'):LentAt w' base p q gd gf:=
 ⟨h.mem,h.data,h.AD,h.cD,h.bd.below hb h.bd.lt,h.AF,h.cF,h.flen,h.bf.below hb h.bf.lt,h.row.keep (fun _=>False) (Only.of_below hb fun _ hk _=>hk) (fun _ _ _ h=>h.elim),h.b1,h.b2⟩
theorem LentAt.same {w:World} {base gd gf:Nat} {p q:PrgM} (h:LentAt w base p q gd gf):q.plain=p.plain:=by
 have e:q.fs.map FunM.plain=p.fs.map FunM.plain:=by
  apply List.ext_getElem?;intro j;rw[List.getElem?_map,List.getElem?_map];cases hq:q.fs[j]? with
  |none=>
   have h1:q.fs.length≤j:=List.getElem?_eq_none_iff.1 hq;rw[List.getElem?_eq_none (by rw[←h.flen];exact h1)]
  |some g=>
   obtain ⟨f,hf,b,e,-⟩:=h.row j g hq;rw[hf,e];rfl
 unfold PrgM.plain;rw[h.mem,h.data,e]
theorem LentAt.at_ {w w0:World} {base gd gf:Nat} {p q:PrgM} (h:LentAt w base p q gd gf) (hp:PrgAt w0 p):PrgAt w q:=by
 have hd:RV w (some ⟨gd,0,none⟩) (p.data.map bv):=by
  have h1:=(RV.of_blk h.bd).cut 0 p.data.length;rw[List.drop_zero, ←List.map_take] at h1;unfold lentP at h1;rwa [List.take_append_of_le_length (Nat.le_refl _),List.take_length] at h1
 have hf:RV w (some ⟨gf,0,none⟩) (q.fs.flatMap funCells):=by
  have h1:=BlkF.rv h.bf q.fs.length (by simp)
  rwa [List.take_append_of_le_length (Nat.le_refl _),List.take_length] at h1
 refine ⟨⟨?_,?_⟩,?_,?_,?_,?_,?_,?_,?_⟩
 ·rw[h.AD,h.data];exact hd
 ·intro e;rw[h.AD] at e;cases e
 ·rw[h.data];exact hp.dlen
 ·rw[h.AF];exact hf
 ·intro e;rw[h.AF] at e;cases e
 ·rw[h.flen];exact hp.flen
 ·intro g hg;obtain ⟨j,hj,e⟩:=List.getElem_of_mem hg;obtain ⟨f,hf,b,rfl,hb,-⟩:=h.row j g (by rw[List.getElem?_eq_getElem hj,e])
  have hF:=hp.funs f (List.mem_of_getElem? hf);have hr:=BlkI.rv hb f.code.length (by rw[length_lentC _ _ (Nat.le_refl _)];omega)
  rw[lentC_take] at hr;exact ⟨hr,hF.ok,(fun e=>by cases e),hF.len,hF.a1,hF.a2,hF.l1,hF.l2,hF.r1,hF.r2⟩
 ·rw[h.mem];exact hp.m1
 rw[h.mem];exact hp.m2
end
section
open Go.RowKit
end
end Go.Proofs.Ytcmpmhlcfalbhaa
