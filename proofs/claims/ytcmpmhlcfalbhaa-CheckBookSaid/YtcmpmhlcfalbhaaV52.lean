import Derived.Test.YtcmpmhlcfalbhaaV38
import Derived.Test.YtcmpmhlcfalbhaaV39
import Derived.Test.YtcmpmhlcfalbhaaV40
import Derived.Test.YtcmpmhlcfalbhaaV41
import Derived.Test.YtcmpmhlcfalbhaaV47
import Derived.Test.YtcmpmhlcfalbhaaV48
import Derived.Test.YtcmpmhlcfalbhaaV46
import Derived.Test.YtcmpmhlcfalbhaaV50
import Derived.Test.YtcmpmhlcfalbhaaV51
import Derived.Test.YtcmpmhlcfalbhaaV11
namespace Go.Proofs.Ytcmpmhlcfalbhaa
open Go.RowKit
theorem rows_small {w:World} {B:Nat} {ls:List (List Int)} {R:List (LG×List Value)} (hh:R.map (·.2)=ls.map (·.map iv)) (hs:SoleG w B 3 1 R) (hb:∀j,(ls.getD j []).length≤4096):∀q∈R,q.1.n≤1000000:=fun q hq=>by
 obtain ⟨i,hi⟩:=List.mem_iff_getElem?.1 hq;have h1:(R.map (·.2))[i]?=some q.2:=by rw[List.getElem?_map,hi];rfl
 rw[hh,List.getElem?_map] at h1;obtain ⟨x,h2,h3⟩:=Option.map_eq_some_iff.1 h1;have h4:=(hs.own q hq).1;rw[←h3,List.length_map] at h4;have h5:=hb i;rw[List.getD_eq_getElem?_getD,h2] at h5;change x.length≤4096 at h5
 omega
theorem spots_cells {w:World} {A:Option Addr} {l:List Ins} (h:RV w A (l.flatMap insCells)) (k:Nat) (hk:k<l.length):
  ∃b off,A=some ⟨b,off,none⟩∧b<w.heap.size∧w.cell? ⟨b,off+k*2,none⟩=some (.int .i64 l[k].op)∧w.cell? ⟨b,off+k*2+1,none⟩=some (.int .i64 l[k].a):=by
 have hlen:∀(l:List Ins),(l.flatMap insCells).length=l.length*2:=by
  intro l;induction l with
  |nil=>rfl
  |cons y l ih=>rw[List.flatMap_cons,List.length_append,ih,List.length_cons];simp[insCells];omega
 obtain ⟨b,off,hA,hb,hc⟩:=h.at_ (by rw[hlen];omega)
 have hg:∀(l:List Ins) (k j:Nat) (hk:k<l.length),j<2→(l.flatMap insCells)[k*2+j]?=(insCells l[k])[j]?:=by
  intro l;induction l with
  |nil=>intro k j hk;cases hk
  |cons x l ih=>
   intro k j hk hj;rw[List.flatMap_cons];cases k with
   |zero=>rw[Nat.zero_mul,Nat.zero_add,List.getElem?_append_left (by simp[insCells];omega)];rfl
   |succ k=>
    rw[List.getElem?_append_right (by simp[insCells];omega),show (k+1)*2+j-(insCells x).length=k*2+j from by simp[insCells];omega]
    exact ih k j (by simpa using hk) hj
 have q0:=hc _ _ (hg l k 0 hk (by omega))
 have q1:=hc _ _ (hg l k 1 hk (by omega))
 rw[←Nat.add_assoc] at q1
 exact ⟨b,off,hA,hb,q0,q1⟩
section
variable {w w':World} {B:Nat} {QI QL QB:List (LG×List Value)} {AI AL AB:Option Addr} {cI cL cB:Nat}
abbrev InB (Q:List (LG×List Value)):Nat→Prop:=fun b=>∃p∈Q.map (·.1),p.A.map (·.block)=some b
theorem inB_own {Q:List (LG×List Value)} {e:TypeId} {sz b:Nat} (h:SoleG w B e sz Q) (hb:InB Q b):∃q∈Q,q.1.A.map (·.block)=some b∧B≤b∧b<w.heap.size:=by
 obtain ⟨p,hp,e1⟩:=hb;obtain ⟨q,hq,rfl⟩:=List.mem_map.1 hp;exact ⟨q,hq,e1,h.lt q hq b e1⟩
theorem inB_blk {Q:List (LG×List Value)} {e t:TypeId} {sz g:Nat} {cs:Array Value} (h:SoleG w B e sz Q) (hg:Blk w g t cs) (hne:e≠t): ¬ InB Q g:=fun hb=>by
 obtain ⟨q,hq,e1,-⟩:=inB_own h hb;exact own_blk_ne (h.own q hq) hg hne g e1 rfl
theorem inB_sole {Q X:List (LG×List Value)} {e e2:TypeId} {sz sz2:Nat} (h:SoleG w B e sz Q) (hX:SoleG w B e2 sz2 X) (hne:e≠e2) (ho:Only (InB Q) w w'):SoleG w' B e2 sz2 X:=
 hX.only ho fun x hx b e1 hb=>by
  obtain ⟨q,hq,e3,-⟩:=inB_own h hb;exact ownG_ne (h.own q hq) (hX.own x hx) hne b e3 e1
theorem inB_row {Q:List (LG×List Value)} {e e2:TypeId} {sz sz2 n c:Nat} {A:Option Addr} {vs:List Value} (h:SoleG w B e sz Q) (hX:Own w B e2 sz2 A n c vs) (hne:e≠e2) (ho:Only (InB Q) w w'):Own w' B e2 sz2 A n c vs:=
 Own.only hX ho fun b o e1 hb=>by
  obtain ⟨q,hq,e3,-⟩:=inB_own h hb;exact ownG_ne (h.own q hq) hX hne b e3 (by rw[e1];rfl)
end
theorem insOk_pop:InsOk ⟨4,0⟩:=⟨by decide,by decide,by decide,by decide⟩
structure BkR (w5:World) (vi vl vb vt:Value) (wr:World):Prop where
 out:∃(t nI nL nB cI cL cB:Nat) (AI AL AB:Option Addr) (QI QL QB:List (LG×List Value)),t≤3∧vt= .int .i64 (t:Int)∧vi= .slice AI nI cI∧vl= .slice AL nL cL∧vb= .slice AB nB cB∧
  BookM wr w5.heap.size QI QL QB AI cI AL cL AB cB∧QI.length=nI∧QL.length=nL∧QB.length=nB∧nI≤t*149∧nL≤t*2∧nB≤t∧Below w5.heap.size w5 wr
structure SpR (w5:World) (QL QB:List (LG×List Value)) (AL AB:Option Addr) (cL cB lim N:Nat) (vi vj:Value) (wr:World):Prop where
 out:∃(j nI cI:Nat) (AI:Option Addr) (QI:List (LG×List Value)),j≤20∧j≤N∧vj= .int .i64 (j:Int)∧vi= .slice AI nI cI∧BookM wr w5.heap.size QI QL QB AI cI AL cL AB cB∧QI.length=nI∧nI≤lim+j∧Below w5.heap.size w5 wr
set_option maxRecDepth 100000 in
set_option maxHeartbeats 20000000 in
theorem checkBook_walk (p:PrgM) (A:Option Addr) (c:Nat) (l:List Ins) (w:World) (hp:PrgAt w p) (hl:RV w A (l.flatMap insCells)):Calls Try.prog 10 #[p.val,.slice A l.length c] w fun e w'=>e= .returned (.bool true)∧Below w.heap.size w w':=by
 obtain ⟨N,hN⟩:∃N,N=l.length:=⟨_,rfl⟩;rw[←hN];have HN:=Lib.hid hN;have HP:=Lib.hid hp;have HL:=Lib.hid hl;obtain ⟨w1,hw1⟩:∃w1,w1=w.alloc (.cells #[.int .i64 p.mem,.slice p.AD p.data.length p.cD,.slice p.AF p.fs.length p.cF] 26):=⟨_,rfl⟩;have hb1:Below w.heap.size w w1:=by rw[hw1];exact (Below.refl _ _).alloc (Nat.le_refl _) _
 obtain ⟨gx,hgx⟩:∃g,g=w.heap.size:=⟨_,rfl⟩;have hX:Blk w1 gx 26 #[.int .i64 p.mem,.slice p.AD p.data.length p.cD,.slice p.AF p.fs.length p.cF]:=by rw[hw1,hgx];exact Blk.new _ _ _
 have HX:=Lib.hid hX;have HB1:=Lib.hid hb1;have Hw1:=Lib.hid hw1;have Hgx:=Lib.hid hgx;have HA:=Lib.hid (all13_any p w1 (hp.below hb1));have x0:w1.cell? ⟨gx,0,none⟩=some (.int .i64 p.mem):=hX.cell 0;have x1:w1.cell? ⟨gx,1,none⟩=some (.slice p.AD p.data.length p.cD):=hX.cell 1;have x2:w1.cell? ⟨gx,2,none⟩=some (.slice p.AF p.fs.length p.cF):=hX.cell 2;have xl:=hX.lt;clear hp hb1 hX hw1 hgx hl hN;go_enter Try.func10,Try.ntmps10
 go_upto_region 1 with (fail)
 rw[←Hw1.out, ←Hgx.out];clear Hw1;go_wp2_with fail
 refine HA.out.mono ?_;rintro e w2 ⟨⟨x,rfl⟩,hb2⟩;have Hb2:=Lib.hid (HB1.out.trans (hb2.mono HB1.out.size));have HX2:=Lib.hid (HX.out.below hb2 HX.out.lt);have hX2:=HX2.out;have y0:w2.cell? ⟨gx,0,none⟩=some (.int .i64 p.mem):=hX2.cell 0;have y1:w2.cell? ⟨gx,1,none⟩=some (.slice p.AD p.data.length p.cD):=hX2.cell 1;have y2:w2.cell? ⟨gx,2,none⟩=some (.slice p.AF p.fs.length p.cF):=hX2.cell 2;have yl:=hX2.lt;have HgB:Hid (w.heap.size≤gx∧gx<w2.heap.size):=Lib.hid ⟨by rw[Hgx.out];exact Nat.le_refl _,yl⟩
 clear hb2 hX2 x0 x1 x2 xl HA HX;by_cases hbig:4000<x
 ·clear y0 y1 y2 yl;go_wp2_with fail
  refine (head13_any _).mono ?_;rintro e wh ⟨rfl,hbh⟩;have HBh:=Lib.hid (Hb2.out.trans (hbh.mono Hb2.out.size));clear hbh;go_wp2_with fail
  go_ret
  exact ⟨rfl,HBh.out⟩
 obtain ⟨xc,hxc⟩:∃x,x=checkL p.plain:=⟨_,rfl⟩;have HC:=Lib.hid (show Calls Try.prog 23 #[p.val] w2 (fun e w'=>e= .returned (.int .i64 xc)∧Below w2.heap.size w2 w') from by rw[hxc];exact refCheck_any p w2 (HP.out.below Hb2.out))
 have Hxc:=Lib.hid hxc;clear hxc;go_wp2_with fail
 refine HC.out.mono ?_;rintro e w3 ⟨rfl,hb3⟩;have HB3:=Lib.hid (Hb2.out.trans (hb3.mono Hb2.out.size));have HX3:=Lib.hid (HX2.out.below hb3 HX2.out.lt);have HP3:=Lib.hid (HP.out.below HB3.out);clear hb3 y0 y1 y2 yl HC HX2;by_cases hx: ¬ xc=0
 ·have hx2:(xc != 0)=true:=by simpa using hx
  go_wp2_with fail
  refine (head13_any _).mono ?_;rintro e wh ⟨rfl,hbh⟩;have HBh:=Lib.hid (HB3.out.trans (hbh.mono HB3.out.size));clear hbh;go_wp2_with fail
  go_ret
  exact ⟨rfl,HBh.out⟩
 have hx0:xc=0:=Decidable.not_not.1 hx;subst hx0;clear hx;have hX3:=HX3.out;have y0:w3.cell? ⟨gx,0,none⟩=some (.int .i64 p.mem):=hX3.cell 0;have y1:w3.cell? ⟨gx,1,none⟩=some (.slice p.AD p.data.length p.cD):=hX3.cell 1;have y2:w3.cell? ⟨gx,2,none⟩=some (.slice p.AF p.fs.length p.cF):=hX3.cell 2;have yl:=hX3.lt;clear hX3;have HRn:=Lib.hid (refRun_any p w3 HP3.out);go_wp2_with fail
 refine HRn.out.mono ?_;clear y0 y1 y2 yl HRn;rintro e w4 ⟨hb4,⟨⟨er,ff,nn⟩,hx,rfl⟩|⟨hs,tops,lps,live,ce,co,HRa,LRa,AHa,cHa,ATa,cTa,ALa,cLa,gLa,hok,hM,hL,rfl⟩⟩
 ·have g1: ¬ er=0:=hx.ne;have g3:(er != 0)=true:=by simpa using g1
  have HB4:=Lib.hid (HB3.out.trans (hb4.mono HB3.out.size));clear hx hb4;dsimp only[zFacts,faultV];obtain ⟨w5,hw5⟩:∃w',w'=(w4.alloc (.cells #[.slice none 0 0,.slice none 0 0,.slice none 0 0,.slice none 0 0,.int .i64 0,.int .i64 0] 32)).alloc (.cells #[.int .i64 er,.int .i64 ff,.int .i64 nn] 37):=⟨_,rfl⟩;obtain ⟨g1,hg1⟩:∃g,g=w4.heap.size:=⟨_,rfl⟩;obtain ⟨g2,hg2⟩:∃g,g=w4.heap.size+1:=⟨_,rfl⟩;have hbw5:Below w4.heap.size w4 w5:=by rw[hw5];exact ((Below.refl _ _).alloc (Nat.le_refl _) _).alloc (by simp) _
  have hFw5:Blk w5 g1 32 #[.slice none 0 0,.slice none 0 0,.slice none 0 0,.slice none 0 0,.int .i64 0,.int .i64 0]:=by rw[hw5,hg1];exact (Blk.new w4 _ _).alloc _
  have hEw5:Blk w5 g2 37 #[.int .i64 er,.int .i64 ff,.int .i64 nn]:=by rw[hw5,hg2];exact Blk.new2 _ _ _ _
  have Hw5:=Lib.hid hw5;have Hg1:=Lib.hid hg1;have Hg2:=Lib.hid hg2;clear hw5 hg1 hg2;have e0:w5.cell? ⟨g2,0,none⟩=some (.int .i64 er):=hEw5.cell 0;have e1:w5.cell? ⟨g2,1,none⟩=some (.int .i64 ff):=hEw5.cell 1;have e2:w5.cell? ⟨g2,2,none⟩=some (.int .i64 nn):=hEw5.cell 2;have el:=hEw5.lt;have HB5:=Lib.hid (HB4.out.trans (hbw5.mono HB4.out.size));clear hbw5 hFw5 hEw5;go_upto_region 4 with (fail)
  rw[←Hw5.out, ←Hg2.out, ←Hg1.out];clear Hw5;go_wp2_with fail
  refine (head13_any _).mono ?_;rintro e wh ⟨rfl,hbh⟩;have HBh:=Lib.hid (HB5.out.trans (hbh.mono HB5.out.size));clear hbh;go_wp2_with fail
  go_ret
  exact ⟨rfl,HBh.out⟩
 have HB4:=Lib.hid (HB3.out.trans (hb4.mono HB3.out.size));have Hok:=Lib.hid hok;have HT4:=Lib.hid (TurnM.of_run hM hL);dsimp only[faultV];obtain ⟨w5,hw5⟩:∃w',w'=(w4.alloc (.cells #[.slice AHa hs.length cHa,.slice ATa tops.length cTa,.slice ALa lps.length cLa,.slice (some ⟨gLa,0,none⟩) live.length live.length,.int .i64 ce,.int .i64 co] 32)).alloc (.cells #[.int .i64 0,.int .i64 0,.int .i64 0] 37):=⟨_,rfl⟩;obtain ⟨g1,hg1⟩:∃g,g=w4.heap.size:=⟨_,rfl⟩;obtain ⟨g2,hg2⟩:∃g,g=w4.heap.size+1:=⟨_,rfl⟩;have hbw5:Below w4.heap.size w4 w5:=by rw[hw5];exact ((Below.refl _ _).alloc (Nat.le_refl _) _).alloc (by simp) _
 have hFw5:Blk w5 g1 32 #[.slice AHa hs.length cHa,.slice ATa tops.length cTa,.slice ALa lps.length cLa,.slice (some ⟨gLa,0,none⟩) live.length live.length,.int .i64 ce,.int .i64 co]:=by rw[hw5,hg1];exact (Blk.new w4 _ _).alloc _
 have hEw5:Blk w5 g2 37 #[.int .i64 0,.int .i64 0,.int .i64 0]:=by rw[hw5,hg2];exact Blk.new2 _ _ _ _
 have Hw5:=Lib.hid hw5;have Hg1:=Lib.hid hg1;have Hg2:=Lib.hid hg2;clear hw5 hg1 hg2;have e0:w5.cell? ⟨g2,0,none⟩=some (.int .i64 0):=hEw5.cell 0;have e1:w5.cell? ⟨g2,1,none⟩=some (.int .i64 0):=hEw5.cell 1;have e2:w5.cell? ⟨g2,2,none⟩=some (.int .i64 0):=hEw5.cell 2;have el:=hEw5.lt;have HB5:=Lib.hid (HB4.out.trans (hbw5.mono HB4.out.size));have HW5:=Lib.hid hFw5;have HTa5:=Lib.hid (HT4.out.below hbw5);have HX5:=Lib.hid (HX3.out.below (hb4.trans (hbw5.mono hb4.size)) HX3.out.lt);have HzW:=Lib.hid (show w3.heap.size≤w4.heap.size∧w4.heap.size≤w5.heap.size∧g1<w5.heap.size∧gx<w5.heap.size from ⟨hb4.size,hbw5.size,hFw5.lt,HX5.out.lt⟩)
 clear hok hM hL hb4 hbw5 hFw5 hEw5 HT4 HX3;go_upto_region 4 with (fail)
 rw[←Hw5.out, ←Hg2.out, ←Hg1.out];clear Hw5;go_wp2_with fail
 clear e0 e1 e2 el;go_loopw [7,8,9,10] (fun vi vl vb vt wr=>BkR w5 vi vl vb vt wr) (fun _ _ _ vt _=>3-(intOf vt).toNat)
 case atStart=>exact ⟨0,0,0,0,0,0,0,none,none,none,[],[],[],Nat.zero_le _,rfl,rfl,rfl,rfl,BookM.start _ _,rfl,rfl,rfl,Nat.zero_le _,Nat.zero_le _,Nat.zero_le _,Below.refl _ _⟩
 rename World=>v0;obtain ⟨t,nI,nL,nB,cI,cL,cB,AI,AL,AB,QI,QL,QB,ht3,rfl,rfl,rfl,rfl,hBk,hnI,hnL,hnB,hI,hLl,hBl,hbv⟩:=hrel.out;clear hrel;by_cases htt:t<3
 ·as_aux_lemma=>
  have g3:(t:Int)<3:=by omega
  have HBkv0:=Lib.hid hBk;have HnI:=Lib.hid hnI;have HnL:=Lib.hid hnL;have HnB:=Lib.hid hnB;have HBv0:=Lib.hid hbv;have HXv0:=Lib.hid (HX5.out.below hbv HX5.out.lt);have HWv0:=Lib.hid (HW5.out.below hbv HW5.out.lt);have HTav0:=Lib.hid (HTa5.out.below hbv);have HAI0:=Lib.hid (show ∀b,AI.map (·.block)=some b→b<v0.heap.size from fun b e=>(Own.row hBk.ri b e).2)
  have HAL0:=Lib.hid (show ∀b,AL.map (·.block)=some b→b<v0.heap.size from fun b e=>(Own.row hBk.rl b e).2)
  have HAB0:=Lib.hid (show ∀b,AB.map (·.block)=some b→b<v0.heap.size from fun b e=>(Own.row hBk.rb b e).2)
  have HlI:=Lib.hid (show ∀q∈QI,∀b,q.1.A.map (·.block)=some b→b<v0.heap.size from fun q hq b e=>(hBk.i.lt q hq b e).2)
  have HlL:=Lib.hid (show ∀q∈QL,∀b,q.1.A.map (·.block)=some b→b<v0.heap.size from fun q hq b e=>(hBk.l.lt q hq b e).2)
  have HlB:=Lib.hid (show ∀q∈QB,∀b,q.1.A.map (·.block)=some b→b<v0.heap.size from fun q hq b e=>(hBk.b.lt q hq b e).2)
  have HPv0:=Lib.hid (HP.out.below (HB5.out.trans (hbv.mono HB5.out.size)));have HRn:=Lib.hid (run_good p v0 HPv0.out Hok.out);have hz0:w5.heap.size≤v0.heap.size:=hbv.size;have hXv:=HXv0.out;have y0:v0.cell? ⟨gx,0,none⟩=some (.int .i64 p.mem):=hXv.cell 0;have y1:v0.cell? ⟨gx,1,none⟩=some (.slice p.AD p.data.length p.cD):=hXv.cell 1;have y2:v0.cell? ⟨gx,2,none⟩=some (.slice p.AF p.fs.length p.cF):=hXv.cell 2;have yl:=hXv.lt;clear hBk hnI hnL hnB hbv hXv;go_wp2_with fail
  refine HRn.out.mono ?_;rintro e v1 ⟨HRb,LRb,AHb,cHb,ATb,cTb,ALb,cLb,gLb,rfl,hT,hbv1⟩;clear HRn y0 y1 y2 yl;obtain ⟨v2,hv2⟩:∃w',w'=(v1.alloc (.cells #[.slice AHb hs.length cHb,.slice ATb tops.length cTb,.slice ALb lps.length cLb,.slice (some ⟨gLb,0,none⟩) live.length live.length,.int .i64 ce,.int .i64 co] 32)).alloc (.cells #[.int .i64 0,.int .i64 0,.int .i64 0] 37):=⟨_,rfl⟩;obtain ⟨g3,hg3⟩:∃g,g=v1.heap.size:=⟨_,rfl⟩;obtain ⟨g4,hg4⟩:∃g,g=v1.heap.size+1:=⟨_,rfl⟩;have hbv2:Below v1.heap.size v1 v2:=by rw[hv2];exact ((Below.refl _ _).alloc (Nat.le_refl _) _).alloc (by simp) _
  have hFv2:Blk v2 g3 32 #[.slice AHb hs.length cHb,.slice ATb tops.length cTb,.slice ALb lps.length cLb,.slice (some ⟨gLb,0,none⟩) live.length live.length,.int .i64 ce,.int .i64 co]:=by rw[hv2,hg3];exact (Blk.new v1 _ _).alloc _
  have hEv2:Blk v2 g4 37 #[.int .i64 0,.int .i64 0,.int .i64 0]:=by rw[hv2,hg4];exact Blk.new2 _ _ _ _
  have Hv2:=Lib.hid hv2;have Hg3:=Lib.hid hg3;have Hg4:=Lib.hid hg4;clear hv2 hg3 hg4;have hb02:Below v0.heap.size v0 v2:=hbv1.trans (hbv2.mono hbv1.size);have HFv2:=Lib.hid hFv2;have HTv2:=Lib.hid (hT.below hbv2);have HXv2:=Lib.hid (HXv0.out.below hb02 HXv0.out.lt);have HWv2:=Lib.hid (HWv0.out.below hb02 HWv0.out.lt);have HTav2:=Lib.hid (HTav0.out.below hb02);have HBkv2:=Lib.hid (HBkv0.out.below hb02);have HBv2:=Lib.hid (show Below w5.heap.size w5 v2 from HBv0.out.trans (hb02.mono HBv0.out.size))
  have Hz:=Lib.hid (show v0.heap.size≤v1.heap.size∧v1.heap.size≤v2.heap.size from ⟨hbv1.size,hbv2.size⟩)
  have HSF:=Lib.hid (Hok.out.same (HTv2.out.factV ce co) (HTav2.out.factV ce co));have e0:v2.cell? ⟨g4,0,none⟩=some (.int .i64 0):=hEv2.cell 0;have e1:v2.cell? ⟨g4,1,none⟩=some (.int .i64 0):=hEv2.cell 1;have e2:v2.cell? ⟨g4,2,none⟩=some (.int .i64 0):=hEv2.cell 2;have el:=hEv2.lt;have hFv:=HFv2.out;have f0:v2.cell? ⟨g3,0,none⟩=some (.slice AHb hs.length cHb):=hFv.cell 0;have f1:v2.cell? ⟨g3,1,none⟩=some (.slice ATb tops.length cTb):=hFv.cell 1;have f2:v2.cell? ⟨g3,2,none⟩=some (.slice ALb lps.length cLb):=hFv.cell 2;have f3:v2.cell? ⟨g3,3,none⟩=some (.slice (some ⟨gLb,0,none⟩) live.length live.length):=hFv.cell 3;have f4:v2.cell? ⟨g3,4,none⟩=some (.int .i64 ce):=hFv.cell 4;have f5:v2.cell? ⟨g3,5,none⟩=some (.int .i64 co):=hFv.cell 5;have fl:=hFv.lt;have hWv:=HWv2.out;have d0:v2.cell? ⟨g1,0,none⟩=some (.slice AHa hs.length cHa):=hWv.cell 0;have d1:v2.cell? ⟨g1,1,none⟩=some (.slice ATa tops.length cTa):=hWv.cell 1;have d2:v2.cell? ⟨g1,2,none⟩=some (.slice ALa lps.length cLa):=hWv.cell 2;have d3:v2.cell? ⟨g1,3,none⟩=some (.slice (some ⟨gLa,0,none⟩) live.length live.length):=hWv.cell 3;have d4:v2.cell? ⟨g1,4,none⟩=some (.int .i64 ce):=hWv.cell 4;have d5:v2.cell? ⟨g1,5,none⟩=some (.int .i64 co):=hWv.cell 5;have dl:=hWv.lt;clear hT hbv1 hbv2 hb02 hFv2 hEv2 hFv hWv HBkv0 HXv0 HWv0 HTav0 HBv0;go_upto_region 13 with (fail)
  rw[←Hv2.out, ←Hg4.out, ←Hg3.out];clear Hv2;go_wp2_with fail
  refine HSF.out.mono ?_;rintro e v3 ⟨rfl,hb3⟩;clear e0 e1 e2 el f0 f1 f2 f3 f4 f5 fl d0 d1 d2 d3 d4 d5 dl HSF;obtain ⟨v4,hv4⟩:∃w',w'=v3.alloc (.cells #[.slice ATb tops.length cTb] 29):=⟨_,rfl⟩;have hb34:Below v3.heap.size v3 v4:=by rw[hv4];exact (Below.refl _ _).alloc (Nat.le_refl _) _
  have hU:Blk v4 v3.heap.size 29 #[.slice ATb tops.length cTb]:=by rw[hv4];exact Blk.new _ _ _
  have hb24:Below v2.heap.size v2 v4:=hb3.trans (hb34.mono hb3.size);have HFv3:=Lib.hid (HFv2.out.below hb3 HFv2.out.lt);have HXv4:=Lib.hid (HXv2.out.below hb24 HXv2.out.lt);have HWv4:=Lib.hid (HWv2.out.below hb24 HWv2.out.lt);have HFv4:=Lib.hid (HFv2.out.below hb24 HFv2.out.lt);have HTav4:=Lib.hid (HTav2.out.below hb24);have HTv4:=Lib.hid (HTv2.out.below hb24);have HBkv4:=Lib.hid (HBkv2.out.below hb24);have HBv4:=Lib.hid (show Below w5.heap.size w5 v4 from HBv2.out.trans (hb24.mono HBv2.out.size))
  have HU:=Lib.hid hU;have Hv4:=Lib.hid hv4;have Hz4:=Lib.hid (show v1.heap.size≤v4.heap.size∧w5.heap.size≤v4.heap.size from ⟨Nat.le_trans Hz.out.2 hb24.size,by have:=Hz.out;have:=hb24.size;omega⟩)
  have Hr4:=Lib.hid (show Own v4 w5.heap.size 29 1 AI nI cI (hdrs QI) from by have h:=HBkv4.out.ri;rw[HnI.out] at h;exact h)
  have hFv:=HFv3.out;have f0:v3.cell? ⟨g3,0,none⟩=some (.slice AHb hs.length cHb):=hFv.cell 0;have f1:v3.cell? ⟨g3,1,none⟩=some (.slice ATb tops.length cTb):=hFv.cell 1;have f2:v3.cell? ⟨g3,2,none⟩=some (.slice ALb lps.length cLb):=hFv.cell 2;have f3:v3.cell? ⟨g3,3,none⟩=some (.slice (some ⟨gLb,0,none⟩) live.length live.length):=hFv.cell 3;have f4:v3.cell? ⟨g3,4,none⟩=some (.int .i64 ce):=hFv.cell 4;have f5:v3.cell? ⟨g3,5,none⟩=some (.int .i64 co):=hFv.cell 5;have fl:=hFv.lt;have Hsm:=Lib.hid Hok.out.small;clear hv4 hb34 hU hb24 hb3 hFv HFv2 HXv2 HWv2 HTav2 HTv2 HBkv2 HBv2;have hs64:tops.length≤64∧hs.length≤64∧lps.length≤64∧live.length≤64:=⟨Hsm.out.2.2.1,Hsm.out.2.1,Hsm.out.2.2.2.1,Hsm.out.2.2.2.2.1⟩;go_wp2_with (refine wpList_at 61 rfl ?_;refine wp_stop ?_)
  try refine ⟨?_⟩
  rw[←Hv4.out];clear Hv4;refine wpList_app rfl (.tmp 57) (.tmp 60) eIRow3 rfl rfl Hr4.out (m:=1) (c':=1) (us:=[.slice ATb tops.length cTb]) rfl (RV.of_blk HU.out) rfl (by intro v hv;simp only[List.mem_cons,List.not_mem_nil,or_false] at hv;subst hv;rfl) (by unfold maxLen;omega) (by omega) Hz4.out.2 (by intro h;cases h) ?_
  intro A5 c5 v5 ho5 hgv5 hA5;clear f0 f1 f2 f3 f4 f5 fl HU HFv3;have hOv5:Only (fun k=>AI.map (·.block)=some k) v4 v5:=Only.of_grown hgv5 fun k e=>e;have HXv5:=Lib.hid (HXv4.out.only hOv5 fun e=>own_blk_ne Hr4.out HXv4.out (by decide) _ e rfl)
  have HWv5:=Lib.hid (HWv4.out.only hOv5 fun e=>own_blk_ne Hr4.out HWv4.out (by decide) _ e rfl)
  have HFv5:=Lib.hid (HFv4.out.only hOv5 fun e=>own_blk_ne Hr4.out HFv4.out (by decide) _ e rfl)
  have HTav5:=Lib.hid (HTav4.out.keep hOv5 fun b _ h2 e=>by have h3:=(Own.row Hr4.out b e).1;have h4:=HzW.out;omega)
  have HTv5:=Lib.hid (HTv4.out.keep hOv5 fun b h1 h2 e=>by have h3:=HAI0.out b e;omega)
  have HBv5:=Lib.hid (show Below w5.heap.size w5 v5 from HBv4.out.trans (hOv5.below (B:=w5.heap.size) HBv4.out.size fun k hk e=>by have h3:=(Own.row Hr4.out k e).1;omega))
  have HAI5:=Lib.hid (show ∀b,A5.map (·.block)=some b→b<v0.heap.size∨v1.heap.size≤b from fun b e=>by
   rcases hA5 with h|h
   ·rw[h] at e;exact .inl (HAI0.out b e)
   rw[h] at e;injection e with e;have:=Hz4.out;exact .inr (by omega))
  have HBkv5:=Lib.hid (HBkv4.out.pushI (X:=[(⟨ATb,tops.length,cTb⟩,tops.map iv)]) (SoleG.one (HTv4.out.m.ot.mono hz0))
   (fun q hq x hx b e e2=>by
    rw[List.mem_singleton.1 hx] at e2;have h1:=HlI.out q hq b e;have h2:=(Own.row HTv4.out.m.ot b e2).1;omega)
   (fun q hq=>by rw[List.mem_singleton.1 hq];dsimp only;omega) (by rw[HnI.out];exact ho5) hgv5 hA5)
  have Hr5:=Lib.hid ho5;have Hz5:=Lib.hid (show v1.heap.size≤v5.heap.size∧w5.heap.size≤v5.heap.size from by have h1:=hOv5.size;have h2:=Hz4.out;exact ⟨by omega,by omega⟩)
  have hFv:=HFv5.out;have f0:v5.cell? ⟨g3,0,none⟩=some (.slice AHb hs.length cHb):=hFv.cell 0;have f1:v5.cell? ⟨g3,1,none⟩=some (.slice ATb tops.length cTb):=hFv.cell 1;have f2:v5.cell? ⟨g3,2,none⟩=some (.slice ALb lps.length cLb):=hFv.cell 2;have f3:v5.cell? ⟨g3,3,none⟩=some (.slice (some ⟨gLb,0,none⟩) live.length live.length):=hFv.cell 3;have f4:v5.cell? ⟨g3,4,none⟩=some (.int .i64 ce):=hFv.cell 4;have f5:v5.cell? ⟨g3,5,none⟩=some (.int .i64 co):=hFv.cell 5;have fl:=hFv.lt;clear ho5 hgv5 hA5 hOv5 hFv HXv4 HWv4 HFv4 HTav4 HTv4 HBkv4 HBv4 Hr4 Hz4;go_wp2_with (refine wpList_at 65 rfl ?_;refine wp_stop ?_)
  try refine ⟨?_⟩
  refine wpList_app rfl (.tmp 62) (.tmp 64) eIRow3 rfl rfl Hr5.out (m:=hs.length) (c':=cHb) (us:=hdrs HRb) rfl (RV.of_own HTv5.out.m.oh) (by rw[hdrs_len,HTv5.out.m.lens.1,Nat.mul_one]) (hdrs_one _) (by unfold maxLen;omega) (by omega) Hz5.out.2 (fun e=>by have h:=own_nil HTv5.out.m.oh e;rw[HTv5.out.m.lens.1] at h;exact h) ?_
  intro A6 c6 v6 ho6 hgv6 hA6;clear f0 f1 f2 f3 f4 f5 fl;have hOv6:Only (fun k=>A5.map (·.block)=some k) v5 v6:=Only.of_grown hgv6 fun k e=>e;have HXv6:=Lib.hid (HXv5.out.only hOv6 fun e=>own_blk_ne Hr5.out HXv5.out (by decide) _ e rfl)
  have HWv6:=Lib.hid (HWv5.out.only hOv6 fun e=>own_blk_ne Hr5.out HWv5.out (by decide) _ e rfl)
  have HFv6:=Lib.hid (HFv5.out.only hOv6 fun e=>own_blk_ne Hr5.out HFv5.out (by decide) _ e rfl)
  have HTav6:=Lib.hid (HTav5.out.keep hOv6 fun b _ h2 e=>by have h3:=(Own.row Hr5.out b e).1;have h4:=HzW.out;omega)
  have HTv6:=Lib.hid (HTv5.out.keep hOv6 fun b h1 h2 e=>by have h3:=HAI5.out b e;omega)
  have HBv6:=Lib.hid (show Below w5.heap.size w5 v6 from HBv5.out.trans (hOv6.below (B:=w5.heap.size) HBv5.out.size fun k hk e=>by have h3:=(Own.row Hr5.out k e).1;omega))
  have HAI6:=Lib.hid (show ∀b,A6.map (·.block)=some b→b<v0.heap.size∨v1.heap.size≤b from fun b e=>by
   rcases hA6 with h|h
   ·rw[h] at e;exact HAI5.out b e
   rw[h] at e;injection e with e;have:=Hz5.out;exact .inr (by omega))
  have HBkv6:=Lib.hid (HBkv5.out.pushI (X:=HRb) (HTv5.out.m.sh.mono hz0)
   (fun q hq x hx b e e2=>by
    rcases List.mem_append.1 hq with hq|hq
    ·have h1:=HlI.out q hq b e;have h2:=(HTv5.out.m.sh.lt x hx b e2).1;omega
    rw[List.mem_singleton.1 hq] at e;exact HTv5.out.m.thh x hx b e e2)
   (rows_small HTv5.out.m.hh HTv5.out.m.sh Hsm.out.2.2.2.2.2.1) (by rw[List.length_append,HnI.out,HTv5.out.m.lens.1];rw[hdrs_app];exact ho6) hgv6 hA6)
  have Hr6:=Lib.hid ho6;have Hz6:=Lib.hid (show v1.heap.size≤v6.heap.size∧w5.heap.size≤v6.heap.size from by have h1:=hOv6.size;have h2:=Hz5.out;exact ⟨by omega,by omega⟩)
  have hFv:=HFv6.out;have f0:v6.cell? ⟨g3,0,none⟩=some (.slice AHb hs.length cHb):=hFv.cell 0;have f1:v6.cell? ⟨g3,1,none⟩=some (.slice ATb tops.length cTb):=hFv.cell 1;have f2:v6.cell? ⟨g3,2,none⟩=some (.slice ALb lps.length cLb):=hFv.cell 2;have f3:v6.cell? ⟨g3,3,none⟩=some (.slice (some ⟨gLb,0,none⟩) live.length live.length):=hFv.cell 3;have f4:v6.cell? ⟨g3,4,none⟩=some (.int .i64 ce):=hFv.cell 4;have f5:v6.cell? ⟨g3,5,none⟩=some (.int .i64 co):=hFv.cell 5;have fl:=hFv.lt;clear ho6 hgv6 hA6 hOv6 hFv HXv5 HWv5 HFv5 HTav5 HTv5 HBkv5 HBv5 Hr5 Hz5 HAI5;go_wp2_with (refine wpList_at 69 rfl ?_;refine wp_stop ?_)
  try refine ⟨?_⟩
  refine wpList_app rfl (.tmp 66) (.tmp 68) eIRow3 rfl rfl Hr6.out (m:=lps.length) (c':=cLb) (us:=hdrs LRb) rfl (RV.of_own HTv6.out.m.ol) (by rw[hdrs_len,HTv6.out.m.lens.2,Nat.mul_one]) (hdrs_one _) (by unfold maxLen;omega) (by omega) Hz6.out.2 (fun e=>by have h:=own_nil HTv6.out.m.ol e;rw[HTv6.out.m.lens.2] at h;exact h) ?_
  intro A7 c7 v7 ho7 hgv7 hA7;clear f0 f1 f2 f3 f4 f5 fl;have hOv7:Only (fun k=>A6.map (·.block)=some k) v6 v7:=Only.of_grown hgv7 fun k e=>e;have HXv7:=Lib.hid (HXv6.out.only hOv7 fun e=>own_blk_ne Hr6.out HXv6.out (by decide) _ e rfl)
  have HWv7:=Lib.hid (HWv6.out.only hOv7 fun e=>own_blk_ne Hr6.out HWv6.out (by decide) _ e rfl)
  have HFv7:=Lib.hid (HFv6.out.only hOv7 fun e=>own_blk_ne Hr6.out HFv6.out (by decide) _ e rfl)
  have HTav7:=Lib.hid (HTav6.out.keep hOv7 fun b _ h2 e=>by have h3:=(Own.row Hr6.out b e).1;have h4:=HzW.out;omega)
  have HTv7:=Lib.hid (HTv6.out.keep hOv7 fun b h1 h2 e=>by have h3:=HAI6.out b e;omega)
  have HBv7:=Lib.hid (show Below w5.heap.size w5 v7 from HBv6.out.trans (hOv7.below (B:=w5.heap.size) HBv6.out.size fun k hk e=>by have h3:=(Own.row Hr6.out k e).1;omega))
  have HAI7:=Lib.hid (show ∀b,A7.map (·.block)=some b→b<v0.heap.size∨v1.heap.size≤b from fun b e=>by
   rcases hA7 with h|h
   ·rw[h] at e;exact HAI6.out b e
   rw[h] at e;injection e with e;have:=Hz6.out;exact .inr (by omega))
  have HBkv7:=Lib.hid (HBkv6.out.pushI (X:=LRb) (HTv6.out.m.sl.mono hz0)
   (fun q hq x hx b e e2=>by
    rcases List.mem_append.1 hq with hq|hq
    ·rcases List.mem_append.1 hq with hq|hq
     ·have h1:=HlI.out q hq b e;have h2:=(HTv6.out.m.sl.lt x hx b e2).1;omega
     rw[List.mem_singleton.1 hq] at e;exact HTv6.out.m.thl x hx b e e2
    exact HTv6.out.m.hlx q hq x hx b e e2)
   (rows_small HTv6.out.m.hl HTv6.out.m.sl Hsm.out.2.2.2.2.2.2) (by rw[List.length_append,List.length_append,HnI.out,HTv6.out.m.lens.1,HTv6.out.m.lens.2,hdrs_app,hdrs_app];exact ho7) hgv7 hA7)
  obtain ⟨QI7,hQ7,hBk7⟩:∃Q,Q.length=nI+1+hs.length+lps.length∧BookM v7 w5.heap.size Q QL QB A7 c7 AL cL AB cB:=⟨_,by rw[List.length_append,List.length_append,List.length_append,HnI.out,HTv6.out.m.lens.1,HTv6.out.m.lens.2];rfl,HBkv7.out⟩
  have HQ7:=Lib.hid hQ7;clear HBkv7;have HBkv7:=Lib.hid hBk7;have Hz7:=Lib.hid (show v1.heap.size≤v7.heap.size∧w5.heap.size≤v7.heap.size from by have h1:=hOv7.size;have h2:=Hz6.out;exact ⟨by omega,by omega⟩)
  obtain ⟨v8,hv8⟩:∃w',w'=v7.alloc (.cells #[.slice AHb hs.length cHb,.slice ALb lps.length cLb] 28):=⟨_,rfl⟩;have hb78:Below v7.heap.size v7 v8:=by rw[hv8];exact (Below.refl _ _).alloc (Nat.le_refl _) _
  have hU:Blk v8 v7.heap.size 28 #[.slice AHb hs.length cHb,.slice ALb lps.length cLb]:=by rw[hv8];exact Blk.new _ _ _
  have hFv:=HFv7.out;have f0:v7.cell? ⟨g3,0,none⟩=some (.slice AHb hs.length cHb):=hFv.cell 0;have f1:v7.cell? ⟨g3,1,none⟩=some (.slice ATb tops.length cTb):=hFv.cell 1;have f2:v7.cell? ⟨g3,2,none⟩=some (.slice ALb lps.length cLb):=hFv.cell 2;have f3:v7.cell? ⟨g3,3,none⟩=some (.slice (some ⟨gLb,0,none⟩) live.length live.length):=hFv.cell 3;have f4:v7.cell? ⟨g3,4,none⟩=some (.int .i64 ce):=hFv.cell 4;have f5:v7.cell? ⟨g3,5,none⟩=some (.int .i64 co):=hFv.cell 5;have fl:=hFv.lt;have HXv8:=Lib.hid (HXv7.out.below hb78 HXv7.out.lt);have HWv8:=Lib.hid (HWv7.out.below hb78 HWv7.out.lt);have HFv8:=Lib.hid (HFv7.out.below hb78 HFv7.out.lt);have HTav8:=Lib.hid (HTav7.out.below hb78);have HTv8:=Lib.hid (HTv7.out.below hb78);have HBkv8:=Lib.hid (HBkv7.out.below hb78);have HBv8:=Lib.hid (show Below w5.heap.size w5 v8 from HBv7.out.trans (hb78.mono HBv7.out.size))
  have HU:=Lib.hid hU;have Hv8:=Lib.hid hv8;have Hz8:=Lib.hid (show v1.heap.size≤v8.heap.size∧w5.heap.size≤v8.heap.size from by have h1:=hb78.size;have h2:=Hz7.out;exact ⟨by omega,by omega⟩)
  have Hr8:=Lib.hid (show Own v8 w5.heap.size 28 1 AL nL cL (hdrs QL) from by have h:=HBkv8.out.rl;rw[HnL.out] at h;exact h)
  have HAL8:=Lib.hid (show ∀b,AL.map (·.block)=some b→b<v0.heap.size∨v1.heap.size≤b from fun b e=> .inl (HAL0.out b e))
  clear hQ7 hBk7 hv8 hb78 hU ho7 hgv7 hA7 hOv7 hFv HXv6 HWv6 HFv6 HTav6 HTv6 HBkv6 HBv6 Hr6 Hz6 HAI6 HXv7 HWv7 HFv7 HTav7 HTv7 HBkv7 HBv7 Hz7;go_wp2_with (refine wpList_at 76 rfl ?_;refine wp_stop ?_)
  try refine ⟨?_⟩
  rw[←Hv8.out];clear Hv8;refine wpList_app rfl (.tmp 70) (.tmp 75) eWRow rfl rfl Hr8.out (m:=2) (c':=2) (us:=[.slice AHb hs.length cHb,.slice ALb lps.length cLb]) rfl (RV.of_blk HU.out) rfl (by intro v hv;simp only[List.mem_cons,List.not_mem_nil,or_false] at hv;rcases hv with rfl|rfl<;>rfl) (by unfold maxLen;omega) (by omega) Hz8.out.2 (by intro h;cases h) ?_
  intro A9 c9 v9 ho9 hgv9 hA9;clear f0 f1 f2 f3 f4 f5 fl HU hA9;have hOv9:Only (fun k=>AL.map (·.block)=some k) v8 v9:=Only.of_grown hgv9 fun k e=>e;have HXv9:=Lib.hid (HXv8.out.only hOv9 fun e=>own_blk_ne Hr8.out HXv8.out (by decide) _ e rfl)
  have HWv9:=Lib.hid (HWv8.out.only hOv9 fun e=>own_blk_ne Hr8.out HWv8.out (by decide) _ e rfl)
  have HFv9:=Lib.hid (HFv8.out.only hOv9 fun e=>own_blk_ne Hr8.out HFv8.out (by decide) _ e rfl)
  have HTav9:=Lib.hid (HTav8.out.keep hOv9 fun b _ h2 e=>by have h3:=(Own.row Hr8.out b e).1;have h4:=HzW.out;omega)
  have HTv9:=Lib.hid (HTv8.out.keep hOv9 fun b h1 h2 e=>by have h3:=HAL8.out b e;omega)
  have HBv9:=Lib.hid (show Below w5.heap.size w5 v9 from HBv8.out.trans (hOv9.below (B:=w5.heap.size) HBv8.out.size fun k hk e=>by have h3:=(Own.row Hr8.out k e).1;omega))
  have HBkv9:=Lib.hid (HBkv8.out.pushL (X:=[(⟨AHb,hs.length,cHb⟩,hdrs HRb),(⟨ALb,lps.length,cLb⟩,hdrs LRb)])
   (SoleG.two (x:=(⟨AHb,hs.length,cHb⟩,hdrs HRb)) (y:=(⟨ALb,lps.length,cLb⟩,hdrs LRb)) (by have h:=HTv8.out.m.oh.mono hz0;rw[HTv8.out.m.lens.1] at h;exact h) (by have h:=HTv8.out.m.ol.mono hz0;rw[HTv8.out.m.lens.2] at h;exact h) HTv8.out.m.ahl)
   (fun q hq x hx b e e2=>by
    have h1:=HlL.out q hq b e;simp only[List.mem_cons,List.not_mem_nil,or_false] at hx;rcases hx with rfl|rfl
    ·have h2:=(Own.row HTv8.out.m.oh b e2).1;omega
    have h2:=(Own.row HTv8.out.m.ol b e2).1;omega)
   (fun q hq=>by
    simp only[List.mem_cons,List.not_mem_nil,or_false] at hq;rcases hq with rfl|rfl<;>(dsimp only;omega))
   (fun q hq b e e2=>by
    have h1:=HAI7.out b e2;simp only[List.mem_cons,List.not_mem_nil,or_false] at hq;rcases hq with rfl|rfl
    ·have h2:=(Own.row HTv8.out.m.oh b e).1;have h3:=HTv8.out.zah b e;omega
    have h2:=(Own.row HTv8.out.m.ol b e).1;have h3:=HTv8.out.zal b e;omega)
   (by rw[HnL.out];exact ho9) hgv9)
  obtain ⟨QL9,hQ9,hBk9⟩:∃Q,Q.length=nL+2∧BookM v9 w5.heap.size QI7 Q QB A7 c7 A9 c9 AB cB:=⟨_,by rw[List.length_append,HnL.out];rfl,HBkv9.out⟩
  have HQ9:=Lib.hid hQ9;clear HBkv9;have HBkv9:=Lib.hid hBk9;obtain ⟨v10,hv10⟩:∃w',w'=v9.alloc (.cells #[.slice (some ⟨gLb,0,none⟩) live.length live.length] 30):=⟨_,rfl⟩;have hb910:Below v9.heap.size v9 v10:=by rw[hv10];exact (Below.refl _ _).alloc (Nat.le_refl _) _
  have hU:Blk v10 v9.heap.size 30 #[.slice (some ⟨gLb,0,none⟩) live.length live.length]:=by rw[hv10];exact Blk.new _ _ _
  have hFv:=HFv9.out;have f0:v9.cell? ⟨g3,0,none⟩=some (.slice AHb hs.length cHb):=hFv.cell 0;have f1:v9.cell? ⟨g3,1,none⟩=some (.slice ATb tops.length cTb):=hFv.cell 1;have f2:v9.cell? ⟨g3,2,none⟩=some (.slice ALb lps.length cLb):=hFv.cell 2;have f3:v9.cell? ⟨g3,3,none⟩=some (.slice (some ⟨gLb,0,none⟩) live.length live.length):=hFv.cell 3;have f4:v9.cell? ⟨g3,4,none⟩=some (.int .i64 ce):=hFv.cell 4;have f5:v9.cell? ⟨g3,5,none⟩=some (.int .i64 co):=hFv.cell 5;have fl:=hFv.lt;have HXv10:=Lib.hid (HXv9.out.below hb910 HXv9.out.lt);have HWv10:=Lib.hid (HWv9.out.below hb910 HWv9.out.lt);have HTav10:=Lib.hid (HTav9.out.below hb910);have HTv10:=Lib.hid (HTv9.out.below hb910);have HBkv10:=Lib.hid (HBkv9.out.below hb910);have HBv10:=Lib.hid (show Below w5.heap.size w5 v10 from HBv9.out.trans (hb910.mono HBv9.out.size))
  have HU:=Lib.hid hU;have Hv10:=Lib.hid hv10;have Hz10:=Lib.hid (show v1.heap.size≤v10.heap.size∧w5.heap.size≤v10.heap.size from by have h1:=hb910.size;have h2:=Hz8.out;have h3:=hOv9.size;exact ⟨by omega,by omega⟩)
  have Hr10:=Lib.hid (show Own v10 w5.heap.size 30 1 AB nB cB (hdrs QB) from by have h:=HBkv10.out.rb;rw[HnB.out] at h;exact h)
  clear hQ9 hBk9 hv10 hb910 hU ho9 hgv9 hOv9 hFv HXv8 HWv8 HFv8 HTav8 HTv8 HBkv8 HBv8 Hr8 Hz8 HAL8 HXv9 HWv9 HFv9 HTav9 HTv9 HBkv9 HBv9;go_wp2_with (refine wpList_at 81 rfl ?_;refine wp_stop ?_)
  try refine ⟨?_⟩
  rw[←Hv10.out];clear Hv10;refine wpList_app rfl (.tmp 77) (.tmp 80) eVRow rfl rfl Hr10.out (m:=1) (c':=1) (us:=[.slice (some ⟨gLb,0,none⟩) live.length live.length]) rfl (RV.of_blk HU.out) rfl (by intro v hv;simp only[List.mem_cons,List.not_mem_nil,or_false] at hv;subst hv;rfl) (by unfold maxLen;omega) (by omega) Hz10.out.2 (by intro h;cases h) ?_
  intro A11 c11 v11 ho11 hgv11 hA11;clear f0 f1 f2 f3 f4 f5 fl HU hA11;have hOv11:Only (fun k=>AB.map (·.block)=some k) v10 v11:=Only.of_grown hgv11 fun k e=>e;have HXv11:=Lib.hid (HXv10.out.only hOv11 fun e=>own_blk_ne Hr10.out HXv10.out (by decide) _ e rfl)
  have HWv11:=Lib.hid (HWv10.out.only hOv11 fun e=>own_blk_ne Hr10.out HWv10.out (by decide) _ e rfl)
  have HTav11:=Lib.hid (HTav10.out.keep hOv11 fun b _ h2 e=>by have h3:=(Own.row Hr10.out b e).1;have h4:=HzW.out;omega)
  have HBv11:=Lib.hid (show Below w5.heap.size w5 v11 from HBv10.out.trans (hOv11.below (B:=w5.heap.size) HBv10.out.size fun k hk e=>by have h3:=(Own.row Hr10.out k e).1;omega))
  have HBkv11:=Lib.hid (HBkv10.out.pushB (X:=[(⟨some ⟨gLb,0,none⟩,live.length,live.length⟩,live.map bo)]) (SoleG.one (HTv10.out.l.mono hz0))
   (fun q hq x hx b e e2=>by
    rw[List.mem_singleton.1 hx] at e2;have h1:=HlB.out q hq b e;have h2:=(Own.row HTv10.out.l b e2).1;omega)
   (fun q hq=>by rw[List.mem_singleton.1 hq];dsimp only;omega) (by rw[HnB.out];exact ho11) hgv11)
  obtain ⟨QB11,hQ11,hBk11⟩:∃Q,Q.length=nB+1∧BookM v11 w5.heap.size QI7 QL9 Q A7 c7 A9 c9 A11 c11:=⟨_,by rw[List.length_append,HnB.out];rfl,HBkv11.out⟩
  have HQ11:=Lib.hid hQ11;have HBk11:=Lib.hid hBk11;clear hQ11 hBk11 ho11 hgv11 hOv11 HBkv11 HXv10 HWv10 HTav10 HTv10 HBkv10 HBv10 Hr10 HAI7 HAI0 HAL0 HAB0 HlI HlL HlB HnI HnL HnB Hz;go_wp2_with fail
  go_loopw [7,13] (fun vi vj wr=>SpR w5 QL9 QB11 A9 A11 c9 c11 (t*149+129) N vi vj wr) (fun _ vj _=>N-(intOf vj).toNat)
  case atStart=>exact ⟨0,nI+1+hs.length+lps.length,c7,A7,QI7,Nat.zero_le _,Nat.zero_le _,rfl,rfl,HBk11.out,HQ7.out,by omega,HBv11.out⟩
  rename World=>u0;obtain ⟨j,nJ,cJ,AJ,QJ,hj20,hjN,rfl,rfl,hBk,hnJ,hlim,hbu⟩:=hrel.out;clear hrel HBk11 HQ7;have HBku:=Lib.hid hBk;have HnJ:=Lib.hid hnJ;have HBu:=Lib.hid hbu;clear hBk hnJ hbu;by_cases hjl:j<N
  ·have q1:(j:Int)<(N:Int):=by omega
   by_cases hj2:j<20
   ·have q2:(j:Int)<20:=by omega
    have hbu:=HBu.out;obtain ⟨b,off,hA,hb,s0,s1⟩:=spots_cells (HL.out.below (HB5.out.trans (hbu.mono HB5.out.size))) j (by have:=HN.out;omega)
    subst hA;obtain ⟨sf,hsf⟩:∃x,x=(l[j]'(by have:=HN.out;omega)).op:=⟨_,rfl⟩
    obtain ⟨sn,hsn⟩:∃x,x=(l[j]'(by have:=HN.out;omega)).a:=⟨_,rfl⟩
    rw[←hsf] at s0;rw[←hsn] at s1;clear hsf hsn;have hXu:=HX5.out.below hbu HX5.out.lt;have y0:u0.cell? ⟨gx,0,none⟩=some (.int .i64 p.mem):=hXu.cell 0;have y1:u0.cell? ⟨gx,1,none⟩=some (.slice p.AD p.data.length p.cD):=hXu.cell 1;have y2:u0.cell? ⟨gx,2,none⟩=some (.slice p.AF p.fs.length p.cF):=hXu.cell 2;have yl:=hXu.lt;obtain ⟨ln,hln⟩:∃n,n=(nextL p.plain sf sn).length:=⟨_,rfl⟩;have HNx:=Lib.hid (show Calls Try.prog 18 #[p.val,.agg #[.int .i64 sf,.int .i64 sn]] u0.drew (fun e w'=>∃A c,e= .returned (.slice A ln c)∧OwnI w' u0.drew.heap.size A ln c (nextL p.plain sf sn)∧Below u0.drew.heap.size u0.drew w') from by rw[hln];exact next_any p sf sn u0.drew ((HP.out.below (HB5.out.trans (hbu.mono HB5.out.size))).below (Below.refl _ u0).drew))
    have Hln:=Lib.hid (show ln≤2 by rw[hln];exact nextL_len _ _ _)
    clear hln hbu hXu;go_upto_region 23 with (fail)
    obtain ⟨SC,hSCd⟩:∃S:World→Prop,S=fun w'=>(w'.cell? ⟨gx,0,none⟩=some (.int .i64 p.mem)∧w'.cell? ⟨gx,1,none⟩=some (.slice p.AD p.data.length p.cD)∧w'.cell? ⟨gx,2,none⟩=some (.slice p.AF p.fs.length p.cF)∧gx<w'.heap.size)∧(w'.cell? ⟨b,off+j*2,none⟩=some (.int .i64 sf)∧w'.cell? ⟨b,off+j*2+1,none⟩=some (.int .i64 sn)∧b<w'.heap.size):=⟨_,rfl⟩;have hSC:SC u0.drew:=by rw[hSCd];exact ⟨⟨y0,y1,y2,yl⟩,⟨s0,s1,hb⟩⟩
    have HSC:=Lib.hid (show SC u0.drew from hSC)
    have HSd:=Lib.hid hSCd;clear hSC hSCd;refine region_heldT 8 SC (by kernel_rfl) (by decide) ?_
    refine hwK 0 (.slice AJ nJ cJ) HSC.out ?_;simp only[Act.put,List.setIfInBounds_toArray];refine hwK 1 (.agg #[.int .i64 p.mem,.slice p.AD p.data.length p.cD,.slice p.AF p.fs.length p.cF]) HSC.out ?_;simp only[Act.put];refine hwK 2 (.slice (some ⟨b,off,none⟩) N c) HSC.out ?_;simp only[Act.put];refine hwK 3 (.int .i64 (j:Int)) HSC.out ?_;simp only[Act.put];refine hwK 4 (.pointer (some ⟨b,off+j*2,none⟩)) HSC.out ?_;simp only[Act.put];refine hwK 5 (.agg #[.int .i64 sf,.int .i64 sn]) HSC.out ?_;simp only[Act.put];clear y0 y1 y2 yl s0 s1 hb;refine hwO 6 fun K hK=>?_;go_simp;refine HNx.out.mono ?_;rintro e u1 ⟨AN,cN,rfl,hON,hbr⟩;have hbn:Below u0.heap.size u0 u1:=(Below.refl _ u0).drew.trans hbr
    have hSCn:SC u1:=by
     have h:=HSC.out;rw[HSd.out] at h ⊢;obtain ⟨⟨e0,e1,e2,l0⟩,⟨e3,e4,l1⟩⟩:=h;obtain ⟨hc,-⟩:=bcell hbn;have hz:=hbn.size;exact ⟨⟨(hc _ _ l0).trans e0,(hc _ _ l0).trans e1,(hc _ _ l0).trans e2,Nat.lt_of_lt_of_le l0 hz⟩,⟨(hc _ _ l1).trans e3,(hc _ _ l1).trans e4,Nat.lt_of_lt_of_le l1 hz⟩⟩
    refine hK.out _ _ hSCn (fun hHeld=>?_);clear hK K hHeld HNx;obtain ⟨u2,hu2⟩:∃w',w'=u1.alloc (.cells #[.slice AN ln cN] 29):=⟨_,rfl⟩;have hb12:Below u1.heap.size u1 u2:=by rw[hu2];exact (Below.refl _ _).alloc (Nat.le_refl _) _
    have hU:Blk u2 u1.heap.size 29 #[.slice AN ln cN]:=by rw[hu2];exact Blk.new _ _ _
    have hb02:Below u0.heap.size u0 u2:=hbn.trans (hb12.mono hbn.size);have HBku2:=Lib.hid (HBku.out.below hb02);have HU:=Lib.hid hU;have Hu2:=Lib.hid hu2;have HON:=Lib.hid (Own.below hON hb12 (Nat.le_refl _));have HBu2:=Lib.hid (show Below w5.heap.size w5 u2 from HBu.out.trans (hb02.mono HBu.out.size))
    have Hr2:=Lib.hid (show Own u2 w5.heap.size 29 1 AJ nJ cJ (hdrs QJ) from by have h:=HBku2.out.ri;rw[HnJ.out] at h;exact h)
    have Hlt:=Lib.hid (show ∀q∈QJ,∀b,q.1.A.map (·.block)=some b→b<u0.drew.heap.size from fun q hq b e=>(HBku.out.i.lt q hq b e).2)
    have hz5:w5.heap.size≤u2.heap.size:=HBu2.out.size;have hz6:w5.heap.size≤u0.drew.heap.size:=HBu.out.size
    have hSC2:SC u2:=by
     have h:=hSCn;rw[HSd.out] at h ⊢;obtain ⟨⟨e0,e1,e2,l0⟩,⟨e3,e4,l1⟩⟩:=h;obtain ⟨hc,-⟩:=bcell hb12;have hz:=hb12.size;exact ⟨⟨(hc _ _ l0).trans e0,(hc _ _ l0).trans e1,(hc _ _ l0).trans e2,Nat.lt_of_lt_of_le l0 hz⟩,⟨(hc _ _ l1).trans e3,(hc _ _ l1).trans e4,Nat.lt_of_lt_of_le l1 hz⟩⟩
    clear hu2 hb12 hU hb02 hON hbr hbn hSCn;refine hwO 7 fun K hK=>?_;go_simp;rw[←Hu2.out];refine hK.out _ _ hSC2 (fun hHeld=>?_);clear hK K hHeld Hu2;refine fun hInv=>⟨by kernel_rfl,?_⟩
    clear hInv;simp only[List.drop_succ_cons,List.drop_zero];clear HSC HSd hSC2;clear SC;refine wpList_app rfl (.tmp 92) (.tmp 99) eIRow3 rfl rfl Hr2.out (m:=1) (c':=1) (us:=[.slice AN ln cN]) rfl (RV.of_blk HU.out) rfl (by intro v hv;simp only[List.mem_cons,List.not_mem_nil,or_false] at hv;subst hv;rfl) (by unfold maxLen;omega) (by omega) hz5 (by intro h;cases h) ?_
    intro AK cK u3 hoK hgK hAK
    have HBk3:=Lib.hid (HBku2.out.pushI (X:=[(⟨AN,ln,cN⟩,(nextL p.plain sf sn).map iv)]) (SoleG.one (HON.out.mono hz6))
     (fun q hq x hx b e e2=>by
      rw[List.mem_singleton.1 hx] at e2;have h1:=Hlt.out q hq b e;have h2:=(Own.row HON.out b e2).1;omega)
     (fun q hq=>by rw[List.mem_singleton.1 hq];have:=Hln.out;dsimp only;omega) (by rw[HnJ.out];exact hoK) hgK hAK)
    have hO3:Only (fun k=>AJ.map (·.block)=some k) u2 u3:=Only.of_grown hgK fun k e=>e;have HBu3:=Lib.hid (show Below w5.heap.size w5 u3 from HBu2.out.trans (hO3.below (B:=w5.heap.size) HBu2.out.size fun k hk e=>by have h3:=(Own.row Hr2.out k e).1;omega))
    have HnK:=Lib.hid (show (QJ++[((⟨AN,ln,cN⟩:LG),(nextL p.plain sf sn).map iv)]).length=nJ+1 by rw[List.length_append,HnJ.out];rfl)
    clear hoK hgK hAK hO3 HBku2 HBu2 Hr2 HU HON Hlt;go_wp2_with fail
    exact ⟨⟨j+1,nJ+1,cK,AK,QJ++[(⟨AN,ln,cN⟩,(nextL p.plain sf sn).map iv)],by omega,by omega,by go_num,rfl,HBk3.out,HnK.out,by omega,HBu3.out⟩,by simp[intOf];omega⟩
   have q2: ¬ (j:Int)<20:=by omega
   go_wp2_with fail
   exact ⟨⟨t+1,nJ,nL+2,nB+1,cJ,c9,c11,AJ,A9,A11,QJ,QL9,QB11,by omega,by go_num,rfl,rfl,rfl,HBku.out,HnJ.out,HQ9.out,HQ11.out,by omega,by omega,by omega,HBu.out⟩,by simp[intOf];omega⟩
  have q1: ¬ (j:Int)<(N:Int):=by omega
  go_wp2_with fail
  exact ⟨⟨t+1,nJ,nL+2,nB+1,cJ,c9,c11,AJ,A9,A11,QJ,QL9,QB11,by omega,by go_num,rfl,rfl,rfl,HBku.out,HnJ.out,HQ9.out,HQ11.out,by omega,by omega,by omega,HBu.out⟩,by simp[intOf];omega⟩
 as_aux_lemma=>
 have ht:t=3:=by omega
 subst ht;have HBkv0:=Lib.hid hBk;have HnI:=Lib.hid hnI;have HnL:=Lib.hid hnL;have HnB:=Lib.hid hnB;have HBv0:=Lib.hid hbv;have HXv0:=Lib.hid (HX5.out.below hbv HX5.out.lt);have HWv0:=Lib.hid (HW5.out.below hbv HW5.out.lt);have HTav0:=Lib.hid (HTa5.out.below hbv);have HlI:=Lib.hid (show ∀q∈QI,∀b,q.1.A.map (·.block)=some b→b<v0.heap.size from fun q hq b e=>(hBk.i.lt q hq b e).2)
 have HlL:=Lib.hid (show ∀q∈QL,∀b,q.1.A.map (·.block)=some b→b<v0.heap.size from fun q hq b e=>(hBk.l.lt q hq b e).2)
 have HlB:=Lib.hid (show ∀q∈QB,∀b,q.1.A.map (·.block)=some b→b<v0.heap.size from fun q hq b e=>(hBk.b.lt q hq b e).2)
 have HPv0:=Lib.hid (HP.out.below (HB5.out.trans (hbv.mono HB5.out.size)));have HRn:=Lib.hid (run_good p v0 HPv0.out Hok.out);have hz0:w5.heap.size≤v0.heap.size:=hbv.size;have hXv:=HXv0.out;have y0:v0.cell? ⟨gx,0,none⟩=some (.int .i64 p.mem):=hXv.cell 0;have y1:v0.cell? ⟨gx,1,none⟩=some (.slice p.AD p.data.length p.cD):=hXv.cell 1;have y2:v0.cell? ⟨gx,2,none⟩=some (.slice p.AF p.fs.length p.cF):=hXv.cell 2;have yl:=hXv.lt;clear hBk hnI hnL hnB hbv hXv;go_wp2_with fail
 refine HRn.out.mono ?_;rintro e v1 ⟨HRb,LRb,AHb,cHb,ATb,cTb,ALb,cLb,gLb,rfl,hT,hbv1⟩;clear HRn y0 y1 y2 yl;obtain ⟨v2,hv2⟩:∃w',w'=(v1.alloc (.cells #[.slice AHb hs.length cHb,.slice ATb tops.length cTb,.slice ALb lps.length cLb,.slice (some ⟨gLb,0,none⟩) live.length live.length,.int .i64 ce,.int .i64 co] 32)).alloc (.cells #[.int .i64 0,.int .i64 0,.int .i64 0] 37):=⟨_,rfl⟩;obtain ⟨g3,hg3⟩:∃g,g=v1.heap.size:=⟨_,rfl⟩;obtain ⟨g4,hg4⟩:∃g,g=v1.heap.size+1:=⟨_,rfl⟩;have hbv2:Below v1.heap.size v1 v2:=by rw[hv2];exact ((Below.refl _ _).alloc (Nat.le_refl _) _).alloc (by simp) _
 have hFv2:Blk v2 g3 32 #[.slice AHb hs.length cHb,.slice ATb tops.length cTb,.slice ALb lps.length cLb,.slice (some ⟨gLb,0,none⟩) live.length live.length,.int .i64 ce,.int .i64 co]:=by rw[hv2,hg3];exact (Blk.new v1 _ _).alloc _
 have hEv2:Blk v2 g4 37 #[.int .i64 0,.int .i64 0,.int .i64 0]:=by rw[hv2,hg4];exact Blk.new2 _ _ _ _
 have Hv2:=Lib.hid hv2;have Hg3:=Lib.hid hg3;have Hg4:=Lib.hid hg4;clear hv2 hg3 hg4;have hb02:Below v0.heap.size v0 v2:=hbv1.trans (hbv2.mono hbv1.size);have HFv2:=Lib.hid hFv2;have HTv2:=Lib.hid (hT.below hbv2);have HXv2:=Lib.hid (HXv0.out.below hb02 HXv0.out.lt);have HWv2:=Lib.hid (HWv0.out.below hb02 HWv0.out.lt);have HTav2:=Lib.hid (HTav0.out.below hb02);have HBkv2:=Lib.hid (HBkv0.out.below hb02);have HBv2:=Lib.hid (show Below w5.heap.size w5 v2 from HBv0.out.trans (hb02.mono HBv0.out.size))
 have HSI:=Lib.hid HBkv2.out.i;have HSL:=Lib.hid HBkv2.out.l;have HSB:=Lib.hid HBkv2.out.b;have HRL:=Lib.hid (show Own v2 w5.heap.size 28 1 AL QL.length cL (hdrs QL) from HBkv2.out.rl)
 have HRB:=Lib.hid (show Own v2 w5.heap.size 30 1 AB QB.length cB (hdrs QB) from HBkv2.out.rb)
 have HG:=Lib.hid (show Calls Try.prog 32 #[.slice AI nI cI] v2 (fun e w'=>e= .returned (.bool true)∧Only (InB QI) v2 w') from by
  have h:=grownInts_any AI cI w5.heap.size (QI.map (·.1)) _ v2 (SoleG.listsH HSI.out HBkv2.out.ri (by decide) (by have:=HnI.out;omega) HBkv2.out.si) (by have:=HBv2.out.size;omega)
  rw[List.length_map,HnI.out] at h;exact h)
 clear hT hbv1 hbv2 hb02 hFv2 hEv2 HBkv0 HXv0 HWv0 HTav0 HBv0;go_upto_region 25 with (fail)
 rw[←Hv2.out, ←Hg4.out, ←Hg3.out];clear Hv2;go_wp2_with fail
 refine HG.out.mono ?_;rintro e v3 ⟨rfl,hOv3⟩;clear HG;have HXv3:=Lib.hid (HXv2.out.only hOv3 (inB_blk HSI.out HXv2.out (by decide)))
 have HWv3:=Lib.hid (HWv2.out.only hOv3 (inB_blk HSI.out HWv2.out (by decide)))
 have HFv3:=Lib.hid (HFv2.out.only hOv3 (inB_blk HSI.out HFv2.out (by decide)))
 have HTav3:=Lib.hid (HTav2.out.keep hOv3 fun b _ h2 e=>by obtain ⟨q,hq,e1,h3,h4⟩:=inB_own HSI.out e;have h5:=HzW.out;omega)
 have HTv3:=Lib.hid (HTv2.out.keep hOv3 fun b h1 h2 e=>by obtain ⟨q,hq,e1,h3,h4⟩:=inB_own HSI.out e;have h5:=HlI.out q hq b e1;omega)
 have HBv3:=Lib.hid (show Below w5.heap.size w5 v3 from HBv2.out.trans (hOv3.below (B:=w5.heap.size) HBv2.out.size fun k hk e=>by obtain ⟨q,hq,e1,h3,h4⟩:=inB_own HSI.out e;omega))
 have HSL3:=Lib.hid (inB_sole HSI.out HSL.out (by decide) hOv3)
 have HSB3:=Lib.hid (inB_sole HSI.out HSB.out (by decide) hOv3)
 have HRL3:=Lib.hid (inB_row HSI.out HRL.out (by decide) hOv3)
 have HRB3:=Lib.hid (inB_row HSI.out HRB.out (by decide) hOv3)
 have HG:=Lib.hid (show Calls Try.prog 33 #[.slice AL nL cL] v3 (fun e w'=>e= .returned (.bool true)∧Only (InB QL) v3 w') from by
  have h:=grownLists_any AL cL w5.heap.size (QL.map (·.1)) _ v3 (SoleG.listsH HSL3.out HRL3.out (by decide) (by have:=HnL.out;omega) HBkv2.out.sl) (by have:=HBv3.out.size;omega)
  rw[List.length_map,HnL.out] at h;exact h)
 clear hOv3 HXv2 HWv2 HFv2 HTav2 HTv2 HBv2 HSI HSL HSB HRL HRB HlI;go_wp2_with fail
 refine HG.out.mono ?_;rintro e v4 ⟨rfl,hOv4⟩;clear HG;have HXv4:=Lib.hid (HXv3.out.only hOv4 (inB_blk HSL3.out HXv3.out (by decide)))
 have HWv4:=Lib.hid (HWv3.out.only hOv4 (inB_blk HSL3.out HWv3.out (by decide)))
 have HFv4:=Lib.hid (HFv3.out.only hOv4 (inB_blk HSL3.out HFv3.out (by decide)))
 have HTav4:=Lib.hid (HTav3.out.keep hOv4 fun b _ h2 e=>by obtain ⟨q,hq,e1,h3,h4⟩:=inB_own HSL3.out e;have h5:=HzW.out;omega)
 have HTv4:=Lib.hid (HTv3.out.keep hOv4 fun b h1 h2 e=>by obtain ⟨q,hq,e1,h3,h4⟩:=inB_own HSL3.out e;have h5:=HlL.out q hq b e1;omega)
 have HBv4:=Lib.hid (show Below w5.heap.size w5 v4 from HBv3.out.trans (hOv4.below (B:=w5.heap.size) HBv3.out.size fun k hk e=>by obtain ⟨q,hq,e1,h3,h4⟩:=inB_own HSL3.out e;omega))
 have HSB4:=Lib.hid (inB_sole HSL3.out HSB3.out (by decide) hOv4)
 have HRB4:=Lib.hid (inB_row HSL3.out HRB3.out (by decide) hOv4)
 have HG:=Lib.hid (show Calls Try.prog 34 #[.slice AB nB cB] v4 (fun e w'=>e= .returned (.bool true)∧Only (InB QB) v4 w') from by
  have h:=grownBools_any AB cB w5.heap.size (QB.map (·.1)) _ v4 (SoleG.listsH HSB4.out HRB4.out (by decide) (by have:=HnB.out;omega) HBkv2.out.sb) (by have:=HBv4.out.size;omega)
  rw[List.length_map,HnB.out] at h;exact h)
 clear hOv4 HXv3 HWv3 HFv3 HTav3 HTv3 HBv3 HSL3 HSB3 HRL3 HRB3 HlL;go_wp2_with fail
 refine HG.out.mono ?_;rintro e v5 ⟨rfl,hOv5⟩;clear HG;have HXv5:=Lib.hid (HXv4.out.only hOv5 (inB_blk HSB4.out HXv4.out (by decide)))
 have HWv5:=Lib.hid (HWv4.out.only hOv5 (inB_blk HSB4.out HWv4.out (by decide)))
 have HFv5:=Lib.hid (HFv4.out.only hOv5 (inB_blk HSB4.out HFv4.out (by decide)))
 have HTav5:=Lib.hid (HTav4.out.keep hOv5 fun b _ h2 e=>by obtain ⟨q,hq,e1,h3,h4⟩:=inB_own HSB4.out e;have h5:=HzW.out;omega)
 have HTv5:=Lib.hid (HTv4.out.keep hOv5 fun b h1 h2 e=>by obtain ⟨q,hq,e1,h3,h4⟩:=inB_own HSB4.out e;have h5:=HlB.out q hq b e1;omega)
 have HBv5:=Lib.hid (show Below w5.heap.size w5 v5 from HBv4.out.trans (hOv5.below (B:=w5.heap.size) HBv4.out.size fun k hk e=>by obtain ⟨q,hq,e1,h3,h4⟩:=inB_own HSB4.out e;omega))
 have HSF:=Lib.hid (Hok.out.same (HTv5.out.factV ce co) (HTav5.out.factV ce co));have hFv:=HFv5.out;have f0:v5.cell? ⟨g3,0,none⟩=some (.slice AHb hs.length cHb):=hFv.cell 0;have f1:v5.cell? ⟨g3,1,none⟩=some (.slice ATb tops.length cTb):=hFv.cell 1;have f2:v5.cell? ⟨g3,2,none⟩=some (.slice ALb lps.length cLb):=hFv.cell 2;have f3:v5.cell? ⟨g3,3,none⟩=some (.slice (some ⟨gLb,0,none⟩) live.length live.length):=hFv.cell 3;have f4:v5.cell? ⟨g3,4,none⟩=some (.int .i64 ce):=hFv.cell 4;have f5:v5.cell? ⟨g3,5,none⟩=some (.int .i64 co):=hFv.cell 5;have fl:=hFv.lt;have hWv:=HWv5.out;have d0:v5.cell? ⟨g1,0,none⟩=some (.slice AHa hs.length cHa):=hWv.cell 0;have d1:v5.cell? ⟨g1,1,none⟩=some (.slice ATa tops.length cTa):=hWv.cell 1;have d2:v5.cell? ⟨g1,2,none⟩=some (.slice ALa lps.length cLa):=hWv.cell 2;have d3:v5.cell? ⟨g1,3,none⟩=some (.slice (some ⟨gLa,0,none⟩) live.length live.length):=hWv.cell 3;have d4:v5.cell? ⟨g1,4,none⟩=some (.int .i64 ce):=hWv.cell 4;have d5:v5.cell? ⟨g1,5,none⟩=some (.int .i64 co):=hWv.cell 5;have dl:=hWv.lt;clear hOv5 HXv4 HWv4 HFv4 HTav4 HTv4 HBv4 HSB4 HRB4 HlB HBkv2 HnI HnL HnB hFv hWv;go_wp2_with fail
 refine HSF.out.mono ?_;rintro e v6 ⟨rfl,hb6⟩;clear f0 f1 f2 f3 f4 f5 fl d0 d1 d2 d3 d4 d5 dl HSF;have HXv6:=Lib.hid (HXv5.out.below hb6 HXv5.out.lt);have HWv6:=Lib.hid (HWv5.out.below hb6 HWv5.out.lt);have HTav6:=Lib.hid (HTav5.out.below hb6);have HBv6:=Lib.hid (show Below w5.heap.size w5 v6 from HBv5.out.trans (hb6.mono HBv5.out.size))
 have HPv6:=Lib.hid (HP.out.below (HB5.out.trans (HBv6.out.mono HB5.out.size)));have HTw:=Lib.hid (refTwin_any p v6 HPv6.out);have hXv:=HXv6.out;have y0:v6.cell? ⟨gx,0,none⟩=some (.int .i64 p.mem):=hXv.cell 0;have y1:v6.cell? ⟨gx,1,none⟩=some (.slice p.AD p.data.length p.cD):=hXv.cell 1;have y2:v6.cell? ⟨gx,2,none⟩=some (.slice p.AF p.fs.length p.cF):=hXv.cell 2;have yl:=hXv.lt;clear hb6 HXv5 HWv5 HFv5 HTav5 HTv5 HBv5 hXv;go_wp2_with fail
 refine HTw.out.mono ?_;clear HTw y0 y1 y2 yl;rintro e v7 ⟨q,rfl,hqp,hMq,hb7⟩;dsimp only[PrgM.val];obtain ⟨v8,hv8⟩:∃w',w'=v7.alloc (.cells #[.int .i64 q.mem,.slice q.AD q.data.length q.cD,.slice q.AF q.fs.length q.cF] 26):=⟨_,rfl⟩;obtain ⟨gq,hgq⟩:∃g,g=v7.heap.size:=⟨_,rfl⟩;have hb78:Below v7.heap.size v7 v8:=by rw[hv8];exact (Below.refl _ _).alloc (Nat.le_refl _) _
 have HQv8:=Lib.hid (show Blk v8 gq 26 #[.int .i64 q.mem,.slice q.AD q.data.length q.cD,.slice q.AF q.fs.length q.cF] from by rw[hv8,hgq];exact Blk.new _ _ _)
 have hb68:Below v6.heap.size v6 v8:=hb7.trans (hb78.mono hb7.size);have HXv8:=Lib.hid (HXv6.out.below hb68 HXv6.out.lt);have HWv8:=Lib.hid (HWv6.out.below hb68 HWv6.out.lt);have HTav8:=Lib.hid (HTav6.out.below hb68);have HBv8:=Lib.hid (show Below w5.heap.size w5 v8 from HBv6.out.trans (hb68.mono HBv6.out.size))
 have HMv8:=Lib.hid (hMq.below hb78);have Hqp:=Lib.hid hqp;have Hpok:=Lib.hid (show PrgOk q.plain from by rw[hqp];exact HP.out.ok)
 have Hqk:=Lib.hid (show FactsOk q.plain hs tops lps live ce co from by rw[hqp];exact Hok.out)
 have Hz6:=Lib.hid (show w5.heap.size≤v6.heap.size∧v6.heap.size≤v7.heap.size from ⟨HBv6.out.size,hb7.size⟩)
 have HRq:=Lib.hid (run_good q v8 (HMv8.out.at_ Hpok.out) Hqk.out);have Hv8:=Lib.hid hv8;have Hgq:=Lib.hid hgq;have hQv:=HQv8.out;have q0:v8.cell? ⟨gq,0,none⟩=some (.int .i64 q.mem):=hQv.cell 0;have q1:v8.cell? ⟨gq,1,none⟩=some (.slice q.AD q.data.length q.cD):=hQv.cell 1;have q2:v8.cell? ⟨gq,2,none⟩=some (.slice q.AF q.fs.length q.cF):=hQv.cell 2;have ql:=hQv.lt;clear hv8 hgq hb78 hqp hMq hb7 hb68 HXv6 HWv6 HTav6 HBv6 hQv;go_upto_region 28 with (fail)
 rw[←Hv8.out, ←Hgq.out];clear Hv8;go_wp2_with fail
 refine HRq.out.mono ?_;rintro e v9 ⟨HRd,LRd,AHd,cHd,ATd,cTd,ALd,cLd,gLd,rfl,-,hb9⟩;clear HRq q0 q1 q2 ql;have HXv9:=Lib.hid (HXv8.out.below hb9 HXv8.out.lt);have HWv9:=Lib.hid (HWv8.out.below hb9 HWv8.out.lt);have HTav9:=Lib.hid (HTav8.out.below hb9);have HBv9:=Lib.hid (show Below w5.heap.size w5 v9 from HBv8.out.trans (hb9.mono HBv8.out.size))
 have HQv9:=Lib.hid (HQv8.out.below hb9 HQv8.out.lt);have HMv9:=Lib.hid (HMv8.out.below hb9);have HNx:=Lib.hid (show Calls Try.prog 18 #[q.val,.agg #[.int .i64 0,.int .i64 0]] v9 (fun e w'=>∃A n c,e= .returned (.slice A n c)∧Below v9.heap.size v9 w') from (next_any q 0 0 v9 (HMv9.out.at_ Hpok.out)).mono fun e w' ⟨A,c,h1,_,h3⟩=>⟨A,_,c,h1,h3⟩)
 have hQv:=HQv9.out;have q0:v9.cell? ⟨gq,0,none⟩=some (.int .i64 q.mem):=hQv.cell 0;have q1:v9.cell? ⟨gq,1,none⟩=some (.slice q.AD q.data.length q.cD):=hQv.cell 1;have q2:v9.cell? ⟨gq,2,none⟩=some (.slice q.AF q.fs.length q.cF):=hQv.cell 2;have ql:=hQv.lt;clear hb9 HXv8 HWv8 HTav8 HBv8 HQv8 HMv8 hQv;go_wp2_with fail
 refine HNx.out.mono ?_;rintro e v10 ⟨An,nn,cn,rfl,hb10⟩;clear HNx q0 q1 q2 ql;have HXv10:=Lib.hid (HXv9.out.below hb10 HXv9.out.lt);have HWv10:=Lib.hid (HWv9.out.below hb10 HWv9.out.lt);have HTav10:=Lib.hid (HTav9.out.below hb10);have HBv10:=Lib.hid (show Below w5.heap.size w5 v10 from HBv9.out.trans (hb10.mono HBv9.out.size))
 have HQv10:=Lib.hid (HQv9.out.below hb10 HQv9.out.lt);have HMv10:=Lib.hid (HMv9.out.below hb10);clear hb10 HXv9 HWv9 HTav9 HBv9 HQv9 HMv9
 have hfl:0<q.fs.length:=by
  have h1:=(good_many Hqk.out.lead.chk).1;change 1≤(q.fs.map FunM.plain).length at h1
  rw[List.length_map] at h1;omega
 obtain ⟨f,hf⟩:∃f,q.fs[0]?=some f:=⟨_,List.getElem?_eq_getElem hfl⟩;have hfm:=List.mem_of_getElem? hf
 have hfp:q.plain.fs[0]?=some f.plain:=by
  show (q.fs.map FunM.plain)[0]?=_
  rw[List.getElem?_map,hf];rfl
 have hfc:0<f.code.length:=by
  have h1:=(good_fn Hqk.out.lead.chk (List.mem_of_getElem? hfp)).c0;change 1≤f.code.length at h1
  omega
 obtain ⟨gf,hgf,hgf1,hgf2⟩:=ownG_some HMv10.out.funs hfl;have hcode:=HMv10.out.row.code f hfm;obtain ⟨gc,hgc,hgc1,hgc2⟩:=ownG_some hcode hfc;have hAf:=HMv10.out.funs;rw[hgf] at hAf
 have hfcell:v10.cell? ⟨gf,3,none⟩=some (.slice (some ⟨gc,0,none⟩) f.code.length f.c):=by
  have h1:(q.fs.flatMap funCells)[3]?=some (.slice f.A f.code.length f.c):=by
   cases hq:q.fs with
   |nil=>rw[hq] at hf;cases hf
   |cons y ys=>
    rw[hq] at hf;injection hf with hf
    subst hf;rfl
  obtain ⟨h2,h3⟩:=List.getElem?_eq_some_iff.1 h1;have h4:=(ownG_at hAf 3 h2).1;rw[h3,hgc] at h4;exact h4
 rw[hgc] at hcode;have hclen:(f.code.flatMap insCells).length=f.code.length*2:=hcode.1;obtain ⟨c0,cf,cl⟩:=ownG_at hcode 0 (by omega)
 obtain ⟨c1,cf1,-⟩:=ownG_at hcode 1 (by omega)
 generalize (f.code.flatMap insCells)[0]=z0 at*
 generalize (f.code.flatMap insCells)[1]=z1 at*
 obtain ⟨v11,hv11⟩:∃w',w'=(v10.setCell ⟨gc,0,none⟩ (.int .i64 4)).setCell ⟨gc,1,none⟩ (.int .i64 0):=⟨_,rfl⟩;have hO11:Only (fun b=>b=gc) v10 v11:=by rw[hv11];exact ((Only.refl (fun b=>b=gc) v10).setCell (p:=⟨gc,0,none⟩) (.inl rfl) _).setCell (p:=⟨gc,1,none⟩) (.inl rfl) _
 obtain ⟨q',hqv,hqpl,-,hpok',hM'⟩:=mine_codeC HMv10.out Hpok.out 0 f hf gc hgc 0 hfc ⟨4,0⟩ insOk_pop;have hM11:PrgMine v11 v6.heap.size q':=by rw[hv11];exact hM'
 have hbad:BadAt q'.plain (134,0,0):=by rw[hqpl];exact popP_bad Hqk.out.lead Hqk.out.good hfp
 have hnx:(nextL q'.plain 0 0).length≤1:=by rw[hqpl];exact popP_next hfp hfc
 have HXv11:=Lib.hid (HXv10.out.only hO11 fun e=>own_blk_ne hcode HXv10.out (by decide) _ (by rw[e];rfl) rfl)
 have HWv11:=Lib.hid (HWv10.out.only hO11 fun e=>own_blk_ne hcode HWv10.out (by decide) _ (by rw[e];rfl) rfl)
 have HQv11:=Lib.hid (HQv10.out.only hO11 fun e=>own_blk_ne hcode HQv10.out (by decide) _ (by rw[e];rfl) rfl)
 have HTav11:=Lib.hid (HTav10.out.keep hO11 fun b _ h2 e=>by have h3:=HzW.out;have h4:=Hz6.out;omega)
 have HBv11:=Lib.hid (show Below w5.heap.size w5 v11 from HBv10.out.trans (hO11.below (B:=w5.heap.size) HBv10.out.size fun k hk e=>by have h4:=Hz6.out;omega))
 have HM11:=Lib.hid hM11;have Hpok':=Lib.hid hpok';have Hqv:=Lib.hid hqv;have Hbad:=Lib.hid hbad;have Hnx:=Lib.hid hnx;have Hv11:=Lib.hid hv11;have hQv:=HQv10.out;have q0:v10.cell? ⟨gq,0,none⟩=some (.int .i64 q.mem):=hQv.cell 0;have q1:v10.cell? ⟨gq,1,none⟩=some (.slice q.AD q.data.length q.cD):=hQv.cell 1;have q2:v10.cell? ⟨gq,2,none⟩=some (.slice q.AF q.fs.length q.cF):=hQv.cell 2;have ql:=hQv.lt;rw[hgf] at q2
 have HRq:=Lib.hid (show Calls Try.prog 13 #[.agg #[.int .i64 q.mem,.slice q.AD q.data.length q.cD,.slice q.AF q.fs.length q.cF]] v11 (fun e w'=>e= .returned (.tuple #[zFacts,faultV (some (134,0,0))])∧Below v11.heap.size v11 w') from by
  have h:=run_any q' v11 (HM11.out.at_ Hpok'.out);rw[Hqv.out] at h
  exact h.mono fun e w' h=>by
   obtain ⟨hb,⟨x,hx,rfl⟩|⟨_,_,_,_,_,_,_,_,_,_,_,_,_,_,_,hk,_⟩⟩:=h
   ·rw[hx.unique Hbad.out];exact ⟨rfl,hb⟩
   exact (hk.noBad Hbad.out).elim)
 have hbgf:gf<v10.heap.size:=hgf2;have Hgf:=Lib.hid hgf;have Hfl:=Lib.hid hfl;clear hfl hfm hfp hf hgf hgf1 hgf2 hgc hgc1 hgc2 hAf hcode hclen hv11 hO11 hqv hqpl hpok' hM' hM11 hbad hnx HXv10 HWv10 HTav10 HBv10 HMv10 HQv10 hQv;go_upto_region 31 with (fail)
 rw[←Hv11.out];clear Hv11 c0 c1 cf cf1 cl q0 q1 q2 ql;have hQv:=HQv11.out;have q0:v11.cell? ⟨gq,0,none⟩=some (.int .i64 q.mem):=hQv.cell 0;have q1:v11.cell? ⟨gq,1,none⟩=some (.slice q.AD q.data.length q.cD):=hQv.cell 1;have q2:v11.cell? ⟨gq,2,none⟩=some (.slice q.AF q.fs.length q.cF):=hQv.cell 2;have ql:=hQv.lt;clear hQv;go_wp2_with fail
 refine HRq.out.mono ?_;clear HRq q0 q1 q2 ql;rintro e v12 ⟨rfl,hb12⟩;dsimp only[zFacts,faultV];obtain ⟨v13,hv13⟩:∃w',w'=(v12.alloc (.cells #[.slice none 0 0,.slice none 0 0,.slice none 0 0,.slice none 0 0,.int .i64 0,.int .i64 0] 32)).alloc (.cells #[.int .i64 134,.int .i64 0,.int .i64 0] 37):=⟨_,rfl⟩;obtain ⟨g5,hg5⟩:∃g,g=v12.heap.size:=⟨_,rfl⟩;obtain ⟨g6,hg6⟩:∃g,g=v12.heap.size+1:=⟨_,rfl⟩;have hbv13:Below v12.heap.size v12 v13:=by rw[hv13];exact ((Below.refl _ _).alloc (Nat.le_refl _) _).alloc (by simp) _
 have hFv13:Blk v13 g5 32 #[.slice none 0 0,.slice none 0 0,.slice none 0 0,.slice none 0 0,.int .i64 0,.int .i64 0]:=by rw[hv13,hg5];exact (Blk.new v12 _ _).alloc _
 have hEv13:Blk v13 g6 37 #[.int .i64 134,.int .i64 0,.int .i64 0]:=by rw[hv13,hg6];exact Blk.new2 _ _ _ _
 have Hv13:=Lib.hid hv13;have Hg5:=Lib.hid hg5;have Hg6:=Lib.hid hg6;clear hv13 hg5 hg6;have hb23:Below v11.heap.size v11 v13:=hb12.trans (hbv13.mono hb12.size);have HXv13:=Lib.hid (HXv11.out.below hb23 HXv11.out.lt);have HWv13:=Lib.hid (HWv11.out.below hb23 HWv11.out.lt);have HTav13:=Lib.hid (HTav11.out.below hb23);have HBv13:=Lib.hid (show Below w5.heap.size w5 v13 from HBv11.out.trans (hb23.mono HBv11.out.size))
 have HQv13:=Lib.hid (HQv11.out.below hb23 HQv11.out.lt);have HMv13:=Lib.hid (HM11.out.below hb23);have HE6v13:=Lib.hid hEv13;have HPv13:=Lib.hid (HP.out.below (HB5.out.trans (HBv13.out.mono HB5.out.size)));have HRn:=Lib.hid (run_good p v13 HPv13.out Hok.out);have hXv:=HXv13.out;have y0:v13.cell? ⟨gx,0,none⟩=some (.int .i64 p.mem):=hXv.cell 0;have y1:v13.cell? ⟨gx,1,none⟩=some (.slice p.AD p.data.length p.cD):=hXv.cell 1;have y2:v13.cell? ⟨gx,2,none⟩=some (.slice p.AF p.fs.length p.cF):=hXv.cell 2;have yl:=hXv.lt;clear hb12 hbv13 hb23 hFv13 hEv13 hXv HXv11 HWv11 HTav11 HBv11 HQv11 HM11;go_upto_region 32 with (fail)
 rw[←Hv13.out, ←Hg6.out, ←Hg5.out];clear Hv13;go_wp2_with fail
 refine HRn.out.mono ?_;clear HRn y0 y1 y2 yl;rintro e v14 ⟨HRe,LRe,AHe,cHe,ATe,cTe,ALe,cLe,gLe,rfl,hT,hb14⟩;obtain ⟨v15,hv15⟩:∃w',w'=(v14.alloc (.cells #[.slice AHe hs.length cHe,.slice ATe tops.length cTe,.slice ALe lps.length cLe,.slice (some ⟨gLe,0,none⟩) live.length live.length,.int .i64 ce,.int .i64 co] 32)).alloc (.cells #[.int .i64 0,.int .i64 0,.int .i64 0] 37):=⟨_,rfl⟩;obtain ⟨g7,hg7⟩:∃g,g=v14.heap.size:=⟨_,rfl⟩;obtain ⟨g8,hg8⟩:∃g,g=v14.heap.size+1:=⟨_,rfl⟩;have hbv15:Below v14.heap.size v14 v15:=by rw[hv15];exact ((Below.refl _ _).alloc (Nat.le_refl _) _).alloc (by simp) _
 have hFv15:Blk v15 g7 32 #[.slice AHe hs.length cHe,.slice ATe tops.length cTe,.slice ALe lps.length cLe,.slice (some ⟨gLe,0,none⟩) live.length live.length,.int .i64 ce,.int .i64 co]:=by rw[hv15,hg7];exact (Blk.new v14 _ _).alloc _
 have hEv15:Blk v15 g8 37 #[.int .i64 0,.int .i64 0,.int .i64 0]:=by rw[hv15,hg8];exact Blk.new2 _ _ _ _
 have Hv15:=Lib.hid hv15;have Hg7:=Lib.hid hg7;have Hg8:=Lib.hid hg8;clear hv15 hg7 hg8;have hb35:Below v13.heap.size v13 v15:=hb14.trans (hbv15.mono hb14.size);have HWv15:=Lib.hid (HWv13.out.below hb35 HWv13.out.lt);have HTav15:=Lib.hid (HTav13.out.below hb35);have HBv15:=Lib.hid (show Below w5.heap.size w5 v15 from HBv13.out.trans (hb35.mono HBv13.out.size))
 have HQv15:=Lib.hid (HQv13.out.below hb35 HQv13.out.lt);have HMv15:=Lib.hid (HMv13.out.below hb35);have hE6:=HE6v13.out.below hb35 HE6v13.out.lt;have HTv15:=Lib.hid (hT.below hbv15);have HSF:=Lib.hid (Hok.out.same (HTv15.out.factV ce co) (HTav15.out.factV ce co));have m0:v15.cell? ⟨g6,0,none⟩=some (.int .i64 134):=hE6.cell 0;have m1:v15.cell? ⟨g6,1,none⟩=some (.int .i64 0):=hE6.cell 1;have m2:v15.cell? ⟨g6,2,none⟩=some (.int .i64 0):=hE6.cell 2;have ml:=hE6.lt;have e0:v15.cell? ⟨g8,0,none⟩=some (.int .i64 0):=hEv15.cell 0;have e1:v15.cell? ⟨g8,1,none⟩=some (.int .i64 0):=hEv15.cell 1;have e2:v15.cell? ⟨g8,2,none⟩=some (.int .i64 0):=hEv15.cell 2;have el:=hEv15.lt;have f0:v15.cell? ⟨g7,0,none⟩=some (.slice AHe hs.length cHe):=hFv15.cell 0;have f1:v15.cell? ⟨g7,1,none⟩=some (.slice ATe tops.length cTe):=hFv15.cell 1;have f2:v15.cell? ⟨g7,2,none⟩=some (.slice ALe lps.length cLe):=hFv15.cell 2;have f3:v15.cell? ⟨g7,3,none⟩=some (.slice (some ⟨gLe,0,none⟩) live.length live.length):=hFv15.cell 3;have f4:v15.cell? ⟨g7,4,none⟩=some (.int .i64 ce):=hFv15.cell 4;have f5:v15.cell? ⟨g7,5,none⟩=some (.int .i64 co):=hFv15.cell 5;have fl:=hFv15.lt;have hWv:=HWv15.out;have d0:v15.cell? ⟨g1,0,none⟩=some (.slice AHa hs.length cHa):=hWv.cell 0;have d1:v15.cell? ⟨g1,1,none⟩=some (.slice ATa tops.length cTa):=hWv.cell 1;have d2:v15.cell? ⟨g1,2,none⟩=some (.slice ALa lps.length cLa):=hWv.cell 2;have d3:v15.cell? ⟨g1,3,none⟩=some (.slice (some ⟨gLa,0,none⟩) live.length live.length):=hWv.cell 3;have d4:v15.cell? ⟨g1,4,none⟩=some (.int .i64 ce):=hWv.cell 4;have d5:v15.cell? ⟨g1,5,none⟩=some (.int .i64 co):=hWv.cell 5;have dl:=hWv.lt;clear hb14 hbv15 hb35 hT hE6 hEv15 hFv15 hWv HXv13 HWv13 HTav13 HBv13 HQv13 HMv13 HE6v13;go_upto_region 33 with (fail)
 rw[←Hv15.out, ←Hg8.out, ←Hg7.out];clear Hv15;go_wp2_with fail
 refine HSF.out.mono ?_;rintro e v16 ⟨rfl,hb16⟩;clear HSF m0 m1 m2 ml e0 e1 e2 el f0 f1 f2 f3 f4 f5 fl d0 d1 d2 d3 d4 d5 dl HTv15;have HQv16:=Lib.hid (HQv15.out.below hb16 HQv15.out.lt);have HMv16:=Lib.hid (HMv15.out.below hb16);have HBv16:=Lib.hid (show Below w5.heap.size w5 v16 from HBv15.out.trans (hb16.mono HBv15.out.size))
 have HNx:=Lib.hid (show Calls Try.prog 18 #[.agg #[.int .i64 q.mem,.slice q.AD q.data.length q.cD,.slice q.AF q.fs.length q.cF],.agg #[.int .i64 0,.int .i64 0]] v16 (fun e w'=>∃A n c,e= .returned (.slice A n c)∧n≤1∧Below v16.heap.size v16 w') from by
  have h:=next_any q' 0 0 v16 (HMv16.out.at_ Hpok'.out);rw[Hqv.out] at h;exact h.mono fun e w' ⟨A,c,h1,_,h3⟩=>⟨A,_,c,h1,Hnx.out,h3⟩)
 have hQv:=HQv16.out;have q0:v16.cell? ⟨gq,0,none⟩=some (.int .i64 q.mem):=hQv.cell 0;have q1:v16.cell? ⟨gq,1,none⟩=some (.slice q.AD q.data.length q.cD):=hQv.cell 1;have q2:v16.cell? ⟨gq,2,none⟩=some (.slice q.AF q.fs.length q.cF):=hQv.cell 2;have ql:=hQv.lt;clear hb16 hQv HQv15 HMv15 HBv15 HWv15 HTav15;go_wp2_with fail
 refine HNx.out.mono ?_;rintro e v17 ⟨An,nn,cn,rfl,hn1,hb17⟩;have hn2:(nn:Int)≤1:=by omega
 have HBv17:=Lib.hid (show Below w5.heap.size w5 v17 from HBv16.out.trans (hb17.mono HBv16.out.size))
 clear HNx q0 q1 q2 ql hb17;go_wp2_with fail
 refine (head13_any _).mono ?_;rintro e wh ⟨rfl,hbh⟩;have HBh:=Lib.hid (HB5.out.trans ((HBv17.out.trans (hbh.mono HBv17.out.size)).mono HB5.out.size));clear hbh;go_wp2_with fail
 go_ret
 exact ⟨rfl,HBh.out⟩
end Go.Proofs.Ytcmpmhlcfalbhaa
