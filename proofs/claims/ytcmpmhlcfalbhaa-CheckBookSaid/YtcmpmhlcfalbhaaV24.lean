import Derived.Test.YtcmpmhlcfalbhaaV15
import Derived.Test.YtcmpmhlcfalbhaaV23
import Derived.Test.YtcmpmhlcfalbhaaV11
import Derived.Test.YtcmpmhlcfalbhaaV09
import Derived.BigQuiet
namespace Go.Proofs.Ytcmpmhlcfalbhaa
open Go.RowKit
abbrev ints (xs:List Nat):List Int:=xs.map fun (n:Nat)=>(n:Int)
theorem nextL_nx {P:Prg} {f n:Nat}:nextL P f n=ints (nxF P f n):=by
 have h0:∀x∈nextL P f n,0≤x:=fun x hx=>by
  unfold nextL at hx;split at hx
  ·cases hx
  have:=(List.mem_filter.1 hx).2;simp only[Bool.and_eq_true,decide_eq_true_eq] at this;exact this.1
 unfold nxF ints;rw[List.map_map];refine (List.map_id _).symm.trans (List.map_congr_left fun x hx=>?_);have:=h0 x hx;show x=((x.toNat:Nat):Int)
 omega
theorem nxF_len (P:Prg) (f n:Nat):(nxF P f n).length≤2:=by
 unfold nxF nextL;rw[List.length_map];split
 ·exact Nat.zero_le _
 exact Nat.le_trans (List.length_filter_le _ _) (goesL_len _ _)
theorem ints_len (xs:List Nat):(ints xs).length=xs.length:=List.length_map ..
theorem ints_app (xs ys:List Nat):ints (xs++ys)=ints xs++ints ys:=List.map_append ..
def todoN (M:Nat) (seen:List Bool) (n:Nat):Nat:=(M+1)*seen.countP (fun x=> !x)+n
theorem todo_eq (M:Nat) (seen:List Bool) (row:List Nat):todo M seen row=todoN M seen row.length:=rfl
theorem reach_nx_lt {P:Prg} {f a b:Nat} (h:Reach (nxF P f) a b):a<P.len f→b<P.len f:=by
 induction h with
 |refl=>exact id
 |step h1 _ ih=>exact fun _=>ih (nxF_lt h1)
theorem countP_le_len (seen:List Bool):seen.countP (fun x=> !x)≤seen.length:=List.countP_le_length
def ComesPost (P:Prg) (f place:Nat) (w:World) (e:Ending) (w':World):Prop:=(∃b,e= .returned (.bool b)∧(b=true↔Cyc (nxF P f) place))∧Below w.heap.size w w'
set_option maxRecDepth 100000 in
set_option maxHeartbeats 4000000 in
theorem comes_any (p:PrgM) (f place N:Nat) (w:World) (hp:PrgAt w p) (hg:Good p.plain) (hf:f<p.fs.length) (hlN:p.plain.len f=N):
  Calls Try.prog 50 #[p.val,.int .i64 (f:Int),.int .i64 (place:Int)] w (ComesPost p.plain f place w):=by
 have hN1:N≤4096:=by rw[←hlN];exact good_len hg f
 have hfl:p.fs.length≤2932031007402:=hp.flen
 obtain ⟨gg,hgf⟩:∃g,p.fs[f]?=some g:=⟨_,List.getElem?_eq_getElem hf⟩
 have hcl:gg.code.length=N:=by rw[←hlN];exact (PrgM.len_plain hgf).symm
 obtain ⟨w1,hw1⟩:∃w1,w1=w.alloc (.cells #[.int .i64 p.mem,.slice p.AD p.data.length p.cD,.slice p.AF p.fs.length p.cF] 26):=⟨_,rfl⟩
 have hb1:Below w.heap.size w w1:=by rw[hw1];exact (Below.refl _ _).alloc (Nat.le_refl _) _
 have hX1:Blk w1 w.heap.size 26 #[.int .i64 p.mem,.slice p.AD p.data.length p.cD,.slice p.AF p.fs.length p.cF]:=by rw[hw1];exact Blk.new w _ _
 obtain ⟨gx,hgx⟩:∃g,g=w.heap.size:=⟨_,rfl⟩
 rw[←hgx] at hX1
 obtain ⟨bf,off3,hA,hbf,q0,q1,q2,q3,hFn,hFl⟩:=(hp.below hb1).fn hgf
 have x2:w1.cell? ⟨gx,2,none⟩=some (.slice (some ⟨bf,off3,none⟩) p.fs.length p.cF):=by rw[←hA];exact hX1.cell 2
 have xl:=hX1.lt
 have gf:(f:Int)<(p.fs.length:Int):=by omega
 rw[hcl] at q3
 have hmk:=run_bools N (by omega)
 obtain ⟨w2,hw2⟩:∃w2,w2=w1.alloc (.cells (Array.replicate N (bo false)) 4):=⟨_,rfl⟩
 obtain ⟨gs,hgs⟩:∃g,g=w1.heap.size:=⟨_,rfl⟩
 have hb2:Below w1.heap.size w1 w2:=by rw[hw2];exact (Below.refl _ _).alloc (Nat.le_refl _) _
 have hL2:OwnL w2 w1.heap.size (some ⟨gs,0,none⟩) N N (List.replicate N false):=by
  rw[hw2,hgs,show Array.replicate N (bo false)=((List.replicate N false).map bo).toArray from by simp]
  exact OwnL.lit w1 N (by omega) _ (by simp)
 obtain ⟨gA,hgA⟩:∃A,A=gg.A:=⟨_,rfl⟩
 obtain ⟨gc,hgc⟩:∃A,A=gg.c:=⟨_,rfl⟩
 rw[←hgA, ←hgc] at q3
 have HX:=Lib.hid hX1
 have HX2:=Lib.hid (hX1.below hb2 hX1.lt)
 have HP:=Lib.hid (hp.below hb1)
 have HB1:=Lib.hid hb1
 have HB2:=Lib.hid hb2
 have HL2:=Lib.hid hL2
 have Hw1:=Lib.hid hw1
 have Hgx:=Lib.hid hgx
 have Hw2:=Lib.hid hw2
 have Hgs:=Lib.hid hgs
 have Hg:=Lib.hid hg
 have HlN:=Lib.hid hlN
 have hgs2:w1.heap.size≤gs:=by omega
 have Hnx:=Lib.hid (refNext_any p f place w2 ((hp.below hb1).below hb2))
 rw[nextL_nx] at Hnx
 clear hp hb1 hX1 hgx hw1 hw2 hgs hb2 hL2 hg hlN hgf hcl hA hFn q0 q1 q2 hgA hgc
 go_enter Try.func50,Try.ntmps50
 go_upto_region 1 with (fail)
 rw[←Hw1.out, ←Hgx.out]
 go_upto_region 3 with (fail)
 try simp only[List.length_map,List.length_replicate]
 rw[←Hw2.out, ←Hgs.out]
 have y0:w2.cell? ⟨gx,0,none⟩=some (.int .i64 p.mem):=HX2.out.cell 0
 have y1:w2.cell? ⟨gx,1,none⟩=some (.slice p.AD p.data.length p.cD):=HX2.out.cell 1
 have y2:w2.cell? ⟨gx,2,none⟩=some (.slice p.AF p.fs.length p.cF):=HX2.out.cell 2
 have yl:=HX2.out.lt
 clear x2 xl q3 hbf hmk
 go_wp2_with fail
 refine Hnx.out.mono ?_
 rintro e w3 ⟨A3,c3,rfl,hO3,hb23⟩
 rw[ints_len] at hO3 ⊢
 have HQ3:=Lib.hid ((QueI.of_own hO3).mono HB2.out.size)
 have HL3:=Lib.hid (Own.below HL2.out hb23 (Nat.le_refl _))
 have HB3:=Lib.hid (HB2.out.trans (hb23.mono HB2.out.size))
 have HS3:=Lib.hid (show Srch (nxF p.plain f) (nxF p.plain f place) N (List.replicate N false) (nxF p.plain f place)∧(List.replicate N false)[place]?≠some true∧todo 2 (List.replicate N false) (nxF p.plain f place)≤3*N+2 from
  ⟨.first _ _,fun e=>(by have:=List.eq_of_mem_replicate (List.mem_of_getElem? e);cases this),by
   rw[todo_eq];unfold todoN;have h1:=countP_le_len (List.replicate N false);have h2:=nxF_len p.plain f place;rw[List.length_replicate] at h1;omega⟩)
 clear y0 y1 y2 yl hO3 hb23 Hnx HX2 HL2
 generalize hx0:nxF p.plain f place=xs0 at*
 have Hx0:=Lib.hid hx0
 clear hx0
 go_wp2_with fail
 go_loopw [9] (fun rv wr=>∃(A:Option Addr) (c:Nat) (xs:List Nat) (seen:List Bool),rv= .slice A xs.length c∧QueI wr w1.heap.size A xs.length c (ints xs)∧OwnL wr w1.heap.size (some ⟨gs,0,none⟩) N N seen∧Hid (Srch (nxF p.plain f) xs0 N seen xs∧seen[place]?≠some true∧todo 2 seen xs≤3*N+2)∧Below w1.heap.size w1 wr) (fun rv wr=>todoN 2 (rdB wr gs N) (lenS rv))
 case atStart=>exact ⟨A3,c3,xs0,_,rfl,HQ3.out,HL3.out,HS3,HB3.out⟩
 case round=>
  clear HQ3 HL3 HS3 HB3;rename World=>wr;obtain ⟨A,c,xs,seen,rfl,hQ,hL,HS,hB⟩:=hrel;have HL:=Lib.hid hL;have HB:=Lib.hid hB;have Hm:=Lib.hid (show todoN 2 (rdB wr gs N) (lenS (.slice A xs.length c))=todo 2 seen xs from by rw[todo_eq,rdB_own hL HS.out.1.len];rfl)
  cases xs with
  |nil=>
   have HC:=Lib.hid (show (false=true↔Cyc (nxF p.plain f) place) from ⟨fun h=>(by cases h),fun ⟨u,hu,hr⟩=>by
    have h1:=(HS.out.1.fin place).2 ⟨u,by rw[←Hx0.out];exact hu,hr⟩
    exact absurd h1 HS.out.2.1⟩)
   clear hQ hL hB;go_wp2_with fail
   go_ret
   exact ⟨⟨false,rfl,HC.out⟩,HB1.out.trans (HB.out.mono HB1.out.size)⟩
  |cons x xs=>
   obtain ⟨g,k,rfl,cx,gl,hn,hcap⟩:=hQ.head;rw[ints_len] at hn;have HQ:=Lib.hid hQ;obtain ⟨s0,hs0,hr0⟩:=HS.out.1.row_ok x (List.mem_cons_self ..);rw[←Hx0.out] at hs0;have hxN:x<N:=by rw[←HlN.out];exact reach_nx_lt hr0 (nxF_lt hs0)
   have Hrx:=Lib.hid (And.intro hs0 hr0);have gxN:(x:Int)<(N:Int):=by omega
   have g0:(0:Int)<(((x::xs).length:Nat):Int):=by rw[List.length_cons];omega
   have g1:1≤(x::xs).length:=by rw[List.length_cons];omega
   obtain ⟨u,hu⟩:∃u,seen[x]?=some u:=⟨_,List.getElem?_eq_getElem (by rw[HS.out.1.len];exact hxN)⟩
   have c1:=OwnL.at_ hL x (by rw[HS.out.1.len];exact hxN)
   rw[(List.getElem?_eq_some_iff.1 hu).2] at c1;obtain ⟨cf1,cl1⟩:=OwnL.room hL x (by rw[HS.out.1.len];exact hxN)
   have Hu:=Lib.hid hu;have hxl:(x::xs).length-1=xs.length:=by rw[List.length_cons];omega
   have Htd:=Lib.hid HS.out.2.2
   have hxle:xs.length≤13000:=by
    have h1:=HS.out.2.2;rw[todo_eq] at h1;unfold todoN at h1;rw[List.length_cons] at h1;omega
   have Hxl:=Lib.hid hxl;clear hQ hL hB hs0 hr0 hu hn hxl;generalize hln:(x::xs).length=ln at*
   have Hln:=Lib.hid hln;clear hln;go_wp2_with (refine wpList_at 32 rfl ?_;refine wp_stop ?_)
   try refine ⟨?_⟩
   refine wpList_tail rfl (.tmp 31) rfl rfl (x:=(x:Int)) (xs:=ints xs) HQ.out ?_;intro A5 hQ5 hA5;have HQ5:=Lib.hid hQ5;have HA5:=Lib.hid hA5;clear hQ5 hA5 HQ;rw[Hxl.out] at HQ5 ⊢;clear cx gl hcap g0 g1;by_cases hxp:x=place
   ·have HC:=Lib.hid (show Cyc (nxF p.plain f) place from ⟨s0,Hrx.out.1,by rw[←hxp];exact Hrx.out.2⟩)
    have gp:((x:Int)==(place:Int))=true:=beq_iff_eq.2 (by omega)
    clear hxp;go_wp2_with fail
    go_ret
    exact ⟨⟨true,rfl,fun _=>HC.out,fun _=>rfl⟩,HB1.out.trans (HB.out.mono HB1.out.size)⟩
   have gp:((x:Int)==(place:Int))=false:=by rw[beq_eq_false_iff_ne];omega
   cases u with
   |true=>
    have HS2:=Lib.hid (show Srch (nxF p.plain f) xs0 N seen xs∧seen[place]?≠some true∧todo 2 seen xs≤3*N+2 from ⟨HS.out.1.skip Hu.out,HS.out.2.1,Nat.le_of_lt (Nat.lt_of_lt_of_le todo_skip HS.out.2.2)⟩)
    have Hlt:=Lib.hid (show todoN 2 (rdB wr gs N) xs.length<todo 2 seen (x::xs) from by rw[rdB_own HL.out HS.out.1.len, ←todo_eq];exact todo_skip)
    go_wp2_with fail
    exact ⟨⟨A5,c-1,xs,seen,rfl,HQ5.out,HL.out,HS2,HB.out⟩,by rw[Hm.out];exact Hlt.out⟩
   |false=>
    have HL6:=Lib.hid (OwnL.put HL.out x true);have hneb:=HQ5.out.ne_own HL.out (by decide)
    have HQ6:=Lib.hid (show QueI (wr.setCell ⟨gs,x,none⟩ (.bool true)) w1.heap.size A5 xs.length (c-1) (ints xs) from HQ5.out.only ((Only.refl (fun b=>b=gs) wr).setCell (p:=⟨gs,x,none⟩) (.inl rfl) _) hneb)
    have HB6:=Lib.hid (HB.out.setCell (p:=⟨gs,x,none⟩) (show w1.heap.size≤gs from hgs2) (.bool true))
    clear hneb;go_upto_region 11 with (fail)
    generalize wr.setCell ⟨gs,x,none⟩ (.bool true)=w6 at*
    have hX6:=HX.out.below HB6.out HX.out.lt;have y0:w6.cell? ⟨gx,0,none⟩=some (.int .i64 p.mem):=hX6.cell 0;have y1:w6.cell? ⟨gx,1,none⟩=some (.slice p.AD p.data.length p.cD):=hX6.cell 1;have y2:w6.cell? ⟨gx,2,none⟩=some (.slice p.AF p.fs.length p.cF):=hX6.cell 2;have yl:=hX6.lt;have hnx:=refNext_any p f x w6 (HP.out.below HB6.out);rw[nextL_nx] at hnx;have Hnx:=Lib.hid hnx;have HS2:=Lib.hid (show Srch (nxF p.plain f) xs0 N (seen.set x true) (xs++nxF p.plain f x)∧(seen.set x true)[place]?≠some true∧todo 2 (seen.set x true) (xs++nxF p.plain f x)≤3*N+2 from ⟨HS.out.1.take hxN,by rw[List.getElem?_set_ne hxp];exact HS.out.2.1,Nat.le_of_lt (Nat.lt_of_lt_of_le (todo_take Hu.out (nxF_len _ _ _)) HS.out.2.2)⟩)
    have Hlt:=Lib.hid (show todo 2 (seen.set x true) (xs++nxF p.plain f x)<todo 2 seen (x::xs) from todo_take Hu.out (nxF_len _ _ _))
    have hnl:=nxF_len p.plain f x;generalize nxF p.plain f x=ys at*
    clear hX6 hnx c1 cf1 cl1;go_wp2_with fail
    refine Hnx.out.mono ?_;rintro e w7 ⟨A7,c7,rfl,hO7,hb67⟩;rw[ints_len] at hO7 ⊢;have HL7:=Lib.hid (Own.below HL6.out hb67 (Nat.le_refl _));have HQ7:=Lib.hid (HQ6.out.only (Only.of_fresh (S:=fun _=>False) hb67) (fun _ _ h=>h));have HB7:=Lib.hid (HB6.out.trans (hb67.mono HB6.out.size));have HO7:=Lib.hid hO7;clear hb67 hO7 y0 y1 y2 yl Hnx HQ6 HL6 HB6;go_wp2_with (refine wpList_at 49 rfl ?_;refine wp_stop ?_)
    try refine ⟨?_⟩
    refine wpList_que rfl (.tmp 43) (.tmp 48) rfl rfl HQ7.out rfl (RV.of_own HO7.out) (ints_len _) (by omega) HB7.out.size (fun h=>own_none HO7.out h) ?_
    intro A8 c8 w8 hQ8 hO8;have hneb:=HQ7.out.ne_own HL7.out (by decide)
    have HL8:=Lib.hid (Own.only HL7.out hO8 (fun b o e e2=>by
     have e3:=hneb b e2;injection e with e
     injection e with e
     exact e3 e.symm))
    have HB8:=Lib.hid (HB7.out.trans (hO8.below HB7.out.size (fun q hq e=>by have:=(HQ7.out.lt q e).1;omega)))
    rw[←ints_app] at hQ8;have HQ8:=Lib.hid hQ8;clear hQ8 hO8 hneb HQ7 HL7 HB7 HO7
    have Hlt2:=Lib.hid (show todoN 2 (rdB w8 gs N) (xs.length+ys.length)<todo 2 seen (x::xs) from by
     rw[rdB_own HL8.out HS2.out.1.len, ←List.length_append, ←todo_eq];exact Hlt.out)
    go_wp2_with fail
    exact ⟨⟨A8,c8,xs++ys,seen.set x true,by rw[List.length_append],by rw[List.length_append];exact HQ8.out,HL8.out,HS2,HB8.out⟩,by rw[Hm.out];exact Hlt2.out⟩
def HRows (w:World) (A:Option Addr) (hs:List (List Int)):Prop:=∃b,A=some ⟨b,0,none⟩∧b<w.heap.size∧∀f,f<hs.length→∃R c,w.cell? ⟨b,f,none⟩=some (.slice R (hs.getD f []).length c)∧RV w R ((hs.getD f []).map iv)
theorem HRows.below {w w':World} {A:Option Addr} {hs:List (List Int)} (h:HRows w A hs) (hb:Below w.heap.size w w'):HRows w' A hs:=by
 obtain ⟨b,e,hl,hc⟩:=h;refine ⟨b,e,by have:=hb.size;omega,fun f hf=>?_⟩
 obtain ⟨R,c,h1,h2⟩:=hc f hf;exact ⟨R,c,by rw[(bcell hb).1 _ _ hl];exact h1,h2.below hb⟩
theorem callsR_ints {P:Prg} {hs:List (List Int)} {f:Nat}:callsR P hs f=ints (cg P hs f):=rfl
theorem cg_len4 {P:Prg} (h:Good P) (hs:List (List Int)) (f:Nat):(cg P hs f).length≤4096:=by
 rw[cg_len];exact Nat.le_trans (callsN_len P hs f) (good_len h f)
theorem reach_cg_lt {P:Prg} (hg:Good P) {hs:List (List Int)} {a b:Nat} (h:Reach (cg P hs) a b):a<P.fs.length→b<P.fs.length:=by
 induction h with
 |refl=>exact id
 |step h1 _ ih=>exact fun _=>ih (cg_lt hg h1)
def ReachedPost (P:Prg) (hs:List (List Int)) (from_ F:Nat) (w:World) (e:Ending) (w':World):Prop:=∃(g:Nat) (seen:List Bool),e= .returned (.slice (some ⟨g,0,none⟩) F F)∧OwnL w' w.heap.size (some ⟨g,0,none⟩) F F seen∧seen.length=F∧(∀v:Nat,seen[v]?=some true↔∃s∈cg P hs from_,Reach (cg P hs) s v)∧Below w.heap.size w w'
set_option maxRecDepth 100000 in
set_option maxHeartbeats 4000000 in
theorem reached_any (p:PrgM) (hs:List (List Int)) (from_ F cH:Nat) (AH:Option Addr) (w:World) (hp:PrgAt w p) (hg:Good p.plain) (hF:p.fs.length=F) (hf:from_<F) (hHF:∀f,f<F→HFin p.plain f (hs.getD f [])) (hl:hs.length=F) (hR:HRows w AH hs):
  Calls Try.prog 51 #[p.val,.slice AH F cH,.int .i64 (from_:Int)] w (ReachedPost p.plain hs from_ F w):=by
 have hF64:F≤64:=by have h1:=(good_many hg.chk).2;rw[←hF];simpa [PrgM.plain] using h1
 obtain ⟨bh,rfl,hbh,hrows⟩:=hR
 have hR:HRows w (some ⟨bh,0,none⟩) hs:=⟨bh,rfl,hbh,hrows⟩
 clear hrows
 obtain ⟨w1,hw1⟩:∃w1,w1=w.alloc (.cells #[.int .i64 p.mem,.slice p.AD p.data.length p.cD,.slice p.AF F p.cF] 26):=⟨_,rfl⟩
 have hb1:Below w.heap.size w w1:=by rw[hw1];exact (Below.refl _ _).alloc (Nat.le_refl _) _
 have hX1:Blk w1 w.heap.size 26 #[.int .i64 p.mem,.slice p.AD p.data.length p.cD,.slice p.AF F p.cF]:=by rw[hw1];exact Blk.new w _ _
 obtain ⟨gx,hgx⟩:∃g,g=w.heap.size:=⟨_,rfl⟩
 rw[←hgx] at hX1
 have hpv:p.val= .agg #[.int .i64 p.mem,.slice p.AD p.data.length p.cD,.slice p.AF F p.cF]:=by rw[←hF]
 rw[hpv]
 have x2:w1.cell? ⟨gx,2,none⟩=some (.slice p.AF F p.cF):=hX1.cell 2
 have xl:=hX1.lt
 have hmk:=run_bools F (by omega)
 obtain ⟨w2,hw2⟩:∃w2,w2=w1.alloc (.cells (Array.replicate F (bo false)) 4):=⟨_,rfl⟩
 obtain ⟨gs,hgs⟩:∃g,g=w1.heap.size:=⟨_,rfl⟩
 have hb2:Below w1.heap.size w1 w2:=by rw[hw2];exact (Below.refl _ _).alloc (Nat.le_refl _) _
 have hL2:OwnL w2 w1.heap.size (some ⟨gs,0,none⟩) F F (List.replicate F false):=by
  rw[hw2,hgs,show Array.replicate F (bo false)=((List.replicate F false).map bo).toArray from by simp]
  exact OwnL.lit w1 F (by omega) _ (by simp)
 have HX:=Lib.hid hX1
 have HX2:=Lib.hid (hX1.below hb2 hX1.lt)
 have HP:=Lib.hid (hp.below hb1)
 have HR:=Lib.hid (hR.below hb1)
 have HB1:=Lib.hid hb1
 have HB2:=Lib.hid hb2
 have HL2:=Lib.hid hL2
 have Hw1:=Lib.hid hw1
 have Hgx:=Lib.hid hgx
 have Hw2:=Lib.hid hw2
 have Hgs:=Lib.hid hgs
 have Hg:=Lib.hid hg
 have HHF:=Lib.hid hHF
 have Hl:=Lib.hid hl
 have HF:=Lib.hid hF
 have Hpv:=Lib.hid hpv
 have hgs2:w1.heap.size≤gs:=by omega
 have gf:(from_:Int)<(F:Int):=by omega
 clear hp hb1 hX1 hgx hw1 hw2 hgs hb2 hL2 hg hHF hl hF hpv hR hbh
 go_enter Try.func51,Try.ntmps51
 go_upto_region 1 with (fail)
 rw[←Hw1.out, ←Hgx.out]
 go_upto_region 2 with (fail)
 try simp only[List.length_map,List.length_replicate]
 rw[←Hw2.out, ←Hgs.out]
 have hX2:=HX2.out
 obtain ⟨b',eb,hbl,hrows⟩:=HR.out.below HB2.out
 injection eb with eb
 injection eb with eb
 subst eb
 obtain ⟨R0,c0,hr0,hrv0⟩:=hrows from_ (by rw[Hl.out];exact hf)
 have hSw:(fun w'=>(w'.cell? ⟨gx,0,none⟩=some (.int .i64 p.mem)∧w'.cell? ⟨gx,1,none⟩=some (.slice p.AD p.data.length p.cD)∧w'.cell? ⟨gx,2,none⟩=some (.slice p.AF F p.cF)∧gx<w'.heap.size)∧w'.cell? ⟨bh,from_,none⟩=some (.slice R0 (hs.getD from_ []).length c0)∧bh<w'.heap.size) w2.drew:=⟨⟨hX2.cell 0,hX2.cell 1,hX2.cell 2,hX2.lt⟩,hr0,hbl⟩
 have Hca:=Lib.hid (refCalls_any p hs from_ _ c0 R0 (hs.getD from_ []) w2.drew ((HP.out.below HB2.out).below ((Below.refl _ w2).drew)) Hg.out (by rw[HF.out];exact hf) rfl (HHF.out from_ hf) (hrv0.below ((Below.refl _ w2).drew)) rfl)
 rw[Hpv.out] at Hca
 generalize hnl:(hs.getD from_ []).length=nl at*
 clear hX2 hbl hrows hr0 hrv0 hnl x2 xl hmk
 obtain ⟨SC,hSCd⟩:∃S:World→Prop,S=fun w'=>(w'.cell? ⟨gx,0,none⟩=some (.int .i64 p.mem)∧w'.cell? ⟨gx,1,none⟩=some (.slice p.AD p.data.length p.cD)∧w'.cell? ⟨gx,2,none⟩=some (.slice p.AF F p.cF)∧gx<w'.heap.size)∧w'.cell? ⟨bh,from_,none⟩=some (.slice R0 nl c0)∧bh<w'.heap.size:=⟨_,rfl⟩
 have hSC:SC w2.drew:=by rw[hSCd];exact hSw
 have HSC:=Lib.hid (show SC w2.drew from hSC)
 have HSd:=Lib.hid hSCd
 clear hSC hSCd
 refine region_heldT 6 SC (by kernel_rfl) (by decide) ?_
 refine hwK 0 (.agg #[.int .i64 p.mem,.slice p.AD p.data.length p.cD,.slice p.AF F p.cF]) HSC.out ?_
 simp only[Act.put,List.setIfInBounds_toArray]
 refine hwK 1 (.int .i64 (from_:Int)) HSC.out ?_
 simp only[Act.put]
 refine hwK 2 (.slice (some ⟨bh,0,none⟩) F cH) HSC.out ?_
 simp only[Act.put]
 refine hwK 3 (.int .i64 (from_:Int)) HSC.out ?_
 simp only[Act.put]
 refine hwK 4 (.pointer (some ⟨bh,from_,none⟩)) HSC.out ?_
 simp only[Act.put]
 refine hwK 5 (.slice R0 nl c0) HSC.out ?_
 simp only[Act.put]
 refine fun hInv=>⟨by kernel_rfl,?_⟩
 clear hInv
 simp only[List.drop_succ_cons,List.drop_zero]
 clear HSC HSd
 clear SC
 go_wp2_with fail
 refine Hca.out.mono ?_
 rintro e w3 ⟨A3,c3,rfl,hO3,hb23⟩
 rw[callsR_ints] at hO3 ⊢
 rw[ints_len] at hO3 ⊢
 have hb23':Below w2.heap.size w2 w3:=((Below.refl _ w2).drew).trans hb23
 have HQ3:=Lib.hid ((QueI.of_own hO3).mono (show w1.heap.size≤w2.drew.heap.size from HB2.out.size))
 have HL3:=Lib.hid (Own.below HL2.out hb23' (Nat.le_refl _))
 have HB3:=Lib.hid (HB2.out.trans (hb23'.mono HB2.out.size))
 have HS3:=Lib.hid (show Srch (cg p.plain hs) (cg p.plain hs from_) F (List.replicate F false) (cg p.plain hs from_)∧todo 4096 (List.replicate F false) (cg p.plain hs from_)≤4097*F+4096 from
  ⟨.first _ _,by
   rw[todo_eq];unfold todoN;have h1:=countP_le_len (List.replicate F false);have h2:=cg_len4 Hg.out hs from_;rw[List.length_replicate] at h1;have h3:(4096+1)*List.countP (fun x=> !x) (List.replicate F false)≤(4096+1)*F:=Nat.mul_le_mul_left _ h1;omega⟩)
 clear hO3 hb23 hb23' Hca HX2 HL2
 generalize hx0:cg p.plain hs from_=xs0 at*
 have Hx0:=Lib.hid hx0
 clear hx0
 go_wp2_with fail
 go_loopw [8] (fun rv wr=>∃(A:Option Addr) (c:Nat) (xs:List Nat) (seen:List Bool),rv= .slice A xs.length c∧QueI wr w1.heap.size A xs.length c (ints xs)∧OwnL wr w1.heap.size (some ⟨gs,0,none⟩) F F seen∧Hid (Srch (cg p.plain hs) xs0 F seen xs∧todo 4096 seen xs≤4097*F+4096)∧Below w1.heap.size w1 wr) (fun rv wr=>todoN 4096 (rdB wr gs F) (lenS rv))
 case atStart=>exact ⟨A3,c3,xs0,_,rfl,HQ3.out,HL3.out,HS3,HB3.out⟩
 case round=>
  clear HQ3 HL3 HS3 HB3;rename World=>wr;obtain ⟨A,c,xs,seen,rfl,hQ,hL,HS,hB⟩:=hrel;have HL:=Lib.hid hL;have HB:=Lib.hid hB;have Hm:=Lib.hid (show todoN 4096 (rdB wr gs F) (lenS (.slice A xs.length c))=todo 4096 seen xs from by rw[todo_eq,rdB_own hL HS.out.1.len];rfl)
  cases xs with
  |nil=>
   have HF2:=Lib.hid (show ReachedPost p.plain hs from_ F w (.returned (.slice (some ⟨gs,0,none⟩) F F)) wr from ⟨gs,seen,rfl,hL.mono HB1.out.size,HS.out.1.len,fun v=>by rw[Hx0.out];exact HS.out.1.fin v,HB1.out.trans (hB.mono HB1.out.size)⟩)
   clear hQ hL hB;go_wp2_with fail
   go_ret
   exact HF2.out
  |cons x xs=>
   obtain ⟨g,k,rfl,cx,gl,hn,hcap⟩:=hQ.head;rw[ints_len] at hn;have HQ:=Lib.hid hQ;obtain ⟨s0,hs0,hr0⟩:=HS.out.1.row_ok x (List.mem_cons_self ..);rw[←Hx0.out] at hs0;have hxF:x<F:=by rw[←HF.out];have h1:=reach_cg_lt Hg.out hr0 (cg_lt Hg.out hs0);simpa [PrgM.plain] using h1
   have gxN:(x:Int)<(F:Int):=by omega
   have g0:(0:Int)<(((x::xs).length:Nat):Int):=by rw[List.length_cons];omega
   have g1:1≤(x::xs).length:=by rw[List.length_cons];omega
   obtain ⟨u,hu⟩:∃u,seen[x]?=some u:=⟨_,List.getElem?_eq_getElem (by rw[HS.out.1.len];exact hxF)⟩
   have c1:=OwnL.at_ hL x (by rw[HS.out.1.len];exact hxF)
   rw[(List.getElem?_eq_some_iff.1 hu).2] at c1;obtain ⟨cf1,cl1⟩:=OwnL.room hL x (by rw[HS.out.1.len];exact hxF)
   have Hu:=Lib.hid hu;have hxl:(x::xs).length-1=xs.length:=by rw[List.length_cons];omega
   have hxle:xs.length≤400000:=by
    have h1:=HS.out.2;rw[todo_eq] at h1;unfold todoN at h1;rw[List.length_cons] at h1;omega
   have Hxl:=Lib.hid hxl;clear hQ hL hB hs0 hr0 hu hn hxl;generalize hln:(x::xs).length=ln at*
   clear hln;go_wp2_with (refine wpList_at 28 rfl ?_;refine wp_stop ?_)
   try refine ⟨?_⟩
   refine wpList_tail rfl (.tmp 27) rfl rfl (x:=(x:Int)) (xs:=ints xs) HQ.out ?_;intro A5 hQ5 hA5;have HQ5:=Lib.hid hQ5;clear hQ5 hA5 HQ;rw[Hxl.out] at HQ5 ⊢;clear cx gl hcap g0 g1;cases u with
   |true=>
    have HS2:=Lib.hid (show Srch (cg p.plain hs) xs0 F seen xs∧todo 4096 seen xs≤4097*F+4096 from ⟨HS.out.1.skip Hu.out,Nat.le_of_lt (Nat.lt_of_lt_of_le todo_skip HS.out.2)⟩)
    have Hlt:=Lib.hid (show todoN 4096 (rdB wr gs F) xs.length<todo 4096 seen (x::xs) from by rw[rdB_own HL.out HS.out.1.len, ←todo_eq];exact todo_skip)
    go_wp2_with fail
    exact ⟨⟨A5,c-1,xs,seen,rfl,HQ5.out,HL.out,HS2,HB.out⟩,by rw[Hm.out];exact Hlt.out⟩
   |false=>
    have HL6:=Lib.hid (OwnL.put HL.out x true);have hneb:=HQ5.out.ne_own HL.out (by decide)
    have HQ6:=Lib.hid (show QueI (wr.setCell ⟨gs,x,none⟩ (.bool true)) w1.heap.size A5 xs.length (c-1) (ints xs) from HQ5.out.only ((Only.refl (fun b=>b=gs) wr).setCell (p:=⟨gs,x,none⟩) (.inl rfl) _) hneb)
    have HB6:=Lib.hid (HB.out.setCell (p:=⟨gs,x,none⟩) (show w1.heap.size≤gs from hgs2) (.bool true))
    clear hneb;go_upto_region 8 with (fail)
    generalize wr.setCell ⟨gs,x,none⟩ (.bool true)=w6 at*
    have hX6:=HX.out.below HB6.out HX.out.lt;obtain ⟨b',eb,hbl,hrows⟩:=HR.out.below HB6.out;injection eb with eb
    injection eb with eb
    subst eb;obtain ⟨R1,c1',hr1,hrv1⟩:=hrows x (by rw[Hl.out];exact hxF)
    have hSw:(fun w'=>(w'.cell? ⟨gx,0,none⟩=some (.int .i64 p.mem)∧w'.cell? ⟨gx,1,none⟩=some (.slice p.AD p.data.length p.cD)∧w'.cell? ⟨gx,2,none⟩=some (.slice p.AF F p.cF)∧gx<w'.heap.size)∧w'.cell? ⟨bh,x,none⟩=some (.slice R1 (hs.getD x []).length c1')∧bh<w'.heap.size) w6.drew:=⟨⟨hX6.cell 0,hX6.cell 1,hX6.cell 2,hX6.lt⟩,hr1,hbl⟩;have Hca:=Lib.hid (refCalls_any p hs x _ c1' R1 (hs.getD x []) w6.drew ((HP.out.below HB6.out).below ((Below.refl _ w6).drew)) Hg.out (by rw[HF.out];exact hxF) rfl (HHF.out x hxF) (hrv1.below ((Below.refl _ w6).drew)) rfl)
    rw[Hpv.out] at Hca;have HS2:=Lib.hid (show Srch (cg p.plain hs) xs0 F (seen.set x true) (xs++cg p.plain hs x)∧todo 4096 (seen.set x true) (xs++cg p.plain hs x)≤4097*F+4096 from ⟨HS.out.1.take hxF,Nat.le_of_lt (Nat.lt_of_lt_of_le (todo_take Hu.out (cg_len4 Hg.out _ _)) HS.out.2)⟩)
    have Hlt:=Lib.hid (show todo 4096 (seen.set x true) (xs++cg p.plain hs x)<todo 4096 seen (x::xs) from todo_take Hu.out (cg_len4 Hg.out _ _))
    have hnl2:=cg_len4 Hg.out hs x;rw[callsR_ints] at Hca;generalize cg p.plain hs x=ys at*
    generalize hnl:(hs.getD x []).length=nl2 at*
    clear hX6 hbl hrows hr1 hrv1 hnl c1 cf1 cl1;obtain ⟨SC,hSCd⟩:∃S:World→Prop,S=fun w'=>(w'.cell? ⟨gx,0,none⟩=some (.int .i64 p.mem)∧w'.cell? ⟨gx,1,none⟩=some (.slice p.AD p.data.length p.cD)∧w'.cell? ⟨gx,2,none⟩=some (.slice p.AF F p.cF)∧gx<w'.heap.size)∧w'.cell? ⟨bh,x,none⟩=some (.slice R1 nl2 c1')∧bh<w'.heap.size:=⟨_,rfl⟩;have hSC:SC w6.drew:=by rw[hSCd];exact hSw
    have HSC:=Lib.hid (show SC w6.drew from hSC)
    have HSd:=Lib.hid hSCd;clear hSC hSCd;refine region_heldT 8 SC (by kernel_rfl) (by decide) ?_
    refine hwK 0 (.slice A5 xs.length (c-1)) HSC.out ?_;simp only[Act.put,List.setIfInBounds_toArray];refine hwK 1 (.agg #[.int .i64 p.mem,.slice p.AD p.data.length p.cD,.slice p.AF F p.cF]) HSC.out ?_;simp only[Act.put];refine hwK 2 (.int .i64 (x:Int)) HSC.out ?_;simp only[Act.put];refine hwK 3 (.slice (some ⟨bh,0,none⟩) F cH) HSC.out ?_;simp only[Act.put];refine hwK 4 (.int .i64 (x:Int)) HSC.out ?_;simp only[Act.put];refine hwK 5 (.pointer (some ⟨bh,x,none⟩)) HSC.out ?_;simp only[Act.put];refine hwK 6 (.slice R1 nl2 c1') HSC.out ?_;simp only[Act.put];refine hwO 7 fun K hK=>?_;go_simp;refine Hca.out.mono ?_;rintro e w7 ⟨A7,c7,rfl,hO7,hb67⟩;have HO7:=Lib.hid hO7;have HB67:=Lib.hid (show Below w6.heap.size w6 w7 from ((Below.refl _ w6).drew).trans hb67)
    have hS7:SC w7:=by
     have h:=HSC.out;rw[HSd.out] at h ⊢;obtain ⟨⟨x0,x1,x2,xl⟩,r0,rl⟩:=h;obtain ⟨hc,-⟩:=bcell hb67;have hz:=hb67.size;exact ⟨⟨(hc _ _ xl).trans x0,(hc _ _ xl).trans x1,(hc _ _ xl).trans x2,by omega⟩,(hc _ _ rl).trans r0,by omega⟩
    refine hK.out _ _ hS7 (fun hHeld=>?_);clear hK K hHeld hO7 hb67 hS7;refine fun hInv=>⟨by kernel_rfl,?_⟩
    clear hInv;simp only[List.drop_succ_cons,List.drop_zero];clear HSC HSd;clear SC;have hO7:=HO7.out;have hb67':=HB67.out;rw[ints_len] at hO7 ⊢;have HL7:=Lib.hid (Own.below HL6.out hb67' (Nat.le_refl _));have HQ7:=Lib.hid (HQ6.out.only (Only.of_fresh (S:=fun _=>False) hb67') (fun _ _ h=>h));have HB7:=Lib.hid (HB6.out.trans (hb67'.mono HB6.out.size));have HO7:=Lib.hid hO7;clear hb67' hO7 Hca HQ6 HL6 HB6 HB67;go_wp2_with (refine wpList_at 45 rfl ?_;refine wp_stop ?_)
    try refine ⟨?_⟩
    refine wpList_que rfl (.tmp 37) (.tmp 44) rfl rfl HQ7.out rfl (RV.of_own HO7.out) (ints_len _) (by omega) HB7.out.size (fun h=>own_none HO7.out h) ?_
    intro A8 c8 w8 hQ8 hO8;have hneb:=HQ7.out.ne_own HL7.out (by decide)
    have HL8:=Lib.hid (Own.only HL7.out hO8 (fun b o e e2=>by
     have e3:=hneb b e2;injection e with e
     injection e with e
     exact e3 e.symm))
    have HB8:=Lib.hid (HB7.out.trans (hO8.below HB7.out.size (fun q hq e=>by have:=(HQ7.out.lt q e).1;omega)))
    rw[←ints_app] at hQ8;have HQ8:=Lib.hid hQ8;clear hQ8 hO8 hneb HQ7 HL7 HB7 HO7
    have Hlt2:=Lib.hid (show todoN 4096 (rdB w8 gs F) (xs.length+ys.length)<todo 4096 seen (x::xs) from by
     rw[rdB_own HL8.out HS2.out.1.len, ←List.length_append, ←todo_eq];exact Hlt.out)
    go_wp2_with fail
    exact ⟨⟨A8,c8,xs++ys,seen.set x true,by rw[List.length_append],by rw[List.length_append];exact HQ8.out,HL8.out,HS2,HB8.out⟩,by rw[Hm.out];exact Hlt2.out⟩
end Go.Proofs.Ytcmpmhlcfalbhaa
