import Derived.Test.YtcmpmhlcfalbhaaV14
import Derived.Test.YtcmpmhlcfalbhaaV09
import Derived.WalkMore
import Derived.ScopeJumps
namespace Go.Proofs.Ytcmpmhlcfalbhaa
open Go.RowKit
theorem run_ints (n:Nat) (hn:n≤1000000) (w:World):(Instr.makeSlice 29 (.int .i64 (n:Int)) (.int .i64 (n:Int))).run Try.prog w= .ok (.slice (some ⟨w.heap.size,0,none⟩) n n) (w.alloc (.cells ((List.replicate n 0).map iv).toArray 3)):=by
 obtain ⟨i,hi,h1,h2,h3⟩:=info_parts int_info;have hr:=run_make (P:=Try.prog) w 29 3 i (.int .i64 0) (Try.underlying29) hi h1 .i64 .i64 n n (by omega) (Int.le_refl _) (by rw[h3];omega) (by omega)
 simp only[Int.toNat_natCast] at hr
 have hcells:madeCells (Value.int .i64 0).cells (n*i.size)=((List.replicate n 0).map iv).toArray:=by
  rw[h2,Nat.mul_one,List.map_replicate];exact Array.toList_inj.1 (by rw[show (Value.int .i64 0).cells=#[.int .i64 0] from rfl,toList_madeCells_one])
 rw[hcells] at hr;exact hr
theorem bool_info:(Try.prog.info? 4).map (fun i=>(i.zero,i.size,i.bytes))=some (some (.bool false),1,1):=by kernel_rfl
theorem run_bools (n:Nat) (hn:n≤1000000) (w:World):(Instr.makeSlice 30 (.int .i64 (n:Int)) (.int .i64 (n:Int))).run Try.prog w= .ok (.slice (some ⟨w.heap.size,0,none⟩) n n) (w.alloc (.cells ((List.replicate n false).map bo).toArray 4)):=by
 obtain ⟨i,hi,h1,h2,h3⟩:=info_parts bool_info;have hr:=run_make (P:=Try.prog) w 30 4 i (.bool false) (Try.underlying30) hi h1 .i64 .i64 n n (by omega) (Int.le_refl _) (by rw[h3];omega) (by omega)
 simp only[Int.toNat_natCast] at hr
 have hcells:madeCells (Value.bool false).cells (n*i.size)=((List.replicate n false).map bo).toArray:=by
  rw[h2,Nat.mul_one,List.map_replicate];exact Array.toList_inj.1 (by rw[show (Value.bool false).cells=#[.bool false] from rfl,toList_madeCells_one])
 rw[hcells] at hr;exact hr
theorem OwnI.lit (w:World) (n:Nat) (hn:n≤1000000) (xs:List Int) (hx:xs.length=n):OwnI (w.alloc (.cells (xs.map iv).toArray 3)) w.heap.size (some ⟨w.heap.size,0,none⟩) n n xs:=by
 have h:=Own.lit w 3 1 n (xs.map iv).toArray (Nat.le_refl _) (by unfold maxLen;omega) (by simp[hx])
 simpa using h
theorem OwnL.lit (w:World) (n:Nat) (hn:n≤1000000) (xs:List Bool) (hx:xs.length=n):OwnL (w.alloc (.cells (xs.map bo).toArray 4)) w.heap.size (some ⟨w.heap.size,0,none⟩) n n xs:=by
 have h:=Own.lit w 4 1 n (xs.map bo).toArray (Nat.le_refl _) (by unfold maxLen;omega) (by simp[hx])
 simpa using h
theorem OwnI.put {w:World} {base g n c:Nat} {xs:List Int} (h:OwnI w base (some ⟨g,0,none⟩) n c xs) (j:Nat) (x:Int):OwnI (w.setCell ⟨g,j,none⟩ (.int .i64 x)) base (some ⟨g,0,none⟩) n c (xs.set j x):=by
 have h2:=own_set h j (iv x);unfold OwnI;rw[List.map_set];exact h2
theorem OwnL.put {w:World} {base g n c:Nat} {xs:List Bool} (h:OwnL w base (some ⟨g,0,none⟩) n c xs) (j:Nat) (x:Bool):OwnL (w.setCell ⟨g,j,none⟩ (.bool x)) base (some ⟨g,0,none⟩) n c (xs.set j x):=by
 have h2:=own_set h j (bo x);unfold OwnL;rw[List.map_set];exact h2
theorem Own.fars {w:World} {base n c size g j:Nat} {e:TypeId} {A:Option Addr} {vs:List Value} (h:Own w base e size A n c vs) (hne:A.map (·.block)≠some g) (u:Value):Own (w.setCell ⟨g,j,none⟩ u) base e size A n c vs:=
 Own.only h ((Only.refl (fun b=>b=g) w).setCell (p:=⟨g,j,none⟩) (.inl rfl) u) fun b o e1 e2=>hne (by rw[e1,e2];rfl)
theorem OwnI.room {w:World} {base g n c:Nat} {xs:List Int} (h:OwnI w base (some ⟨g,0,none⟩) n c xs) (j:Nat) (hj:j<xs.length):w.frozen? ⟨g,j,none⟩=false∧g<w.heap.size:=(own_at h j (by rw[List.length_map];exact hj)).2
theorem OwnL.room {w:World} {base g n c:Nat} {xs:List Bool} (h:OwnL w base (some ⟨g,0,none⟩) n c xs) (j:Nat) (hj:j<xs.length):w.frozen? ⟨g,j,none⟩=false∧g<w.heap.size:=(own_at h j (by rw[List.length_map];exact hj)).2
theorem run_max3 (a b c:Int) (w:World):(Builtin.max_ #[3,3,3] 3 #[.int .i64 a,.int .i64 b,.int .i64 c]).run Try.prog w= .ok (.int .i64 (max (max a b) c)) w:=by
 have e:(if c>(if b>a then b else a) then c else (if b>a then b else a))=max (max a b) c:=by split<;>split<;>omega
 rw[←e];simp[Builtin.max_,Builtin.max2]
def HgtPost (P:Prg) (f:Nat) (w:World) (e:Ending) (w':World):Prop:=
 Below w.heap.size w w'∧((∃h top A c,HRuns P f (h0L (P.len f)) (w0L (P.len f)) (.inl h)∧h.length=P.len f∧TopF P f h top∧e= .returned (.tuple #[.slice A h.length c,.int .i64 top,faultV none])∧OwnI w' w.heap.size A h.length c h)∨
  ∃er n,HRuns P f (h0L (P.len f)) (w0L (P.len f)) (.inr (er,n))∧er≠0∧e= .returned (.tuple #[.slice none 0 0,.int .i64 0,faultV (some (er,(f:Int),(n:Int)))]))
theorem rep_next (k n:Nat) (h:k<n):(List.replicate k (-1:Int)++List.replicate (n-k) 0).set k (-1)=List.replicate (k+1) (-1)++List.replicate (n-(k+1)) 0:=by
 rw[List.set_append,if_neg (by rw[List.length_replicate];omega),List.length_replicate,Nat.sub_self,show n-k=(n-(k+1))+1 by omega,List.replicate_succ,List.set_cons_zero,List.replicate_succ',List.append_assoc]
 rfl
theorem wp_scope_once {P:Program} {c rest:Code} {Q:Exit→Act→World→Prop} {a:Act} {w:World} (l:Nat) (hf:findLabel c l=some rest)
  (first:c.wp P (Exit.jump l (fun a w=>rest.wp P (Exit.noGoto Q) a w) Q) a w):(Code.scope c).wp P Q a w:=
 wp_scope_jumps l (fun a w=>rest.wp P (Exit.noGoto Q) a w) (fun _ _=>0) hf first fun a w hJ=>wp_mono hJ fun e a w h=>by
  cases e with
  |goto l'=>exact absurd h (fun h=>h)
  |_=>exact h
set_option maxRecDepth 100000 in
set_option maxHeartbeats 4000000 in
theorem heights_any (p:PrgM) (f:Nat) (w:World) (hp:PrgAt w p) (hg:Good p.plain) (hf:f<p.fs.length):
  Calls Try.prog 38 #[p.val,.int .i64 (f:Int)] w (HgtPost p.plain f w):=by
 obtain ⟨g,hgf⟩:∃g,p.fs[f]?=some g:=⟨_,List.getElem?_eq_getElem hf⟩
 have hfl:p.fs.length≤2932031007402:=hp.flen
 obtain ⟨N,hN⟩:∃N,N=g.code.length:=⟨_,rfl⟩
 have hlen:p.plain.len f=N:=by rw[hN];exact PrgM.len_plain hgf
 have hGF:=good_fn hg.chk (show g.plain∈p.plain.fs from List.mem_map.2 ⟨g,List.mem_of_getElem? hgf,rfl⟩)
 have hN0:0<N:=by have:=hGF.c0;change 1≤g.code.length at this;omega
 have hN1:N≤4096:=by have:=hGF.c1;change g.code.length≤4096 at this;omega
 obtain ⟨w1,hw1⟩:∃w1,w1=(w.alloc (.cells #[.int .i64 p.mem,.slice p.AD p.data.length p.cD,.slice p.AF p.fs.length p.cF] 26)).alloc (.cells #[.int .i64 0,.int .i64 0,.int .i64 0] 37):=⟨_,rfl⟩
 have hb1:Below w.heap.size w w1:=by rw[hw1];exact ((Below.refl _ _).alloc (Nat.le_refl _) _).alloc (by simp) _
 have hX1:Blk w1 w.heap.size 26 #[.int .i64 p.mem,.slice p.AD p.data.length p.cD,.slice p.AF p.fs.length p.cF]:=by rw[hw1];exact (Blk.new w _ _).alloc _
 have hE1:Blk w1 (w.heap.size+1) 37 #[.int .i64 0,.int .i64 0,.int .i64 0]:=by rw[hw1];exact Blk.new2 _ _ _ _
 obtain ⟨gx,hgx⟩:∃g,g=w.heap.size:=⟨_,rfl⟩
 obtain ⟨ge,hge⟩:∃g,g=w.heap.size+1:=⟨_,rfl⟩
 have hgb:w.heap.size≤ge:=by omega
 rw[←hgx] at hX1
 rw[←hge] at hE1
 rw[←hgx] at hge
 have hP1:=hp.below hb1
 obtain ⟨b,off,hA,hb,q0,q1,q2,q3,hF,hFl⟩:=hP1.fn hgf
 have hf2:(f:Int)<(p.fs.length:Int):=by omega
 have x0:w1.cell? ⟨gx,0,none⟩=some (.int .i64 p.mem):=hX1.cell 0
 have x1:w1.cell? ⟨gx,1,none⟩=some (.slice p.AD p.data.length p.cD):=hX1.cell 1
 have x2:w1.cell? ⟨gx,2,none⟩=some (.slice (some ⟨b,off,none⟩) p.fs.length p.cF):=by rw[←hA];exact hX1.cell 2
 have xl:=hX1.lt
 have HX:=Lib.hid hX1
 have HE:=Lib.hid hE1
 have HP:=Lib.hid hP1
 have HF:=Lib.hid hF
 have HB1:=Lib.hid hb1
 have Hw1:=Lib.hid hw1
 have Hgx:=Lib.hid hgx
 have Hge:=Lib.hid hge
 have Hlen:=Lib.hid hlen
 have Hgood:=Lib.hid hg
 have Hgf:=Lib.hid hgf
 have HN:=Lib.hid hN
 rw[←hN] at q3
 have hmkI:=run_ints N (by omega)
 have hmkB:=run_bools N (by omega)
 obtain ⟨gA,hgA⟩:∃A,A=g.A:=⟨_,rfl⟩
 obtain ⟨gc,hgc⟩:∃A,A=g.c:=⟨_,rfl⟩
 rw[←hgA, ←hgc] at q3
 have HgA:=Lib.hid hgA
 have HA:=Lib.hid hA
 clear hp hw1 hb1 hX1 hE1 hgx hge hP1 hF hlen hg hgf hN hGF q0 q1 q2 hgA hgc hA
 go_enter Try.func38,Try.ntmps38
 go_wp2_with fail
 rw[←Hw1.out, ←Hgx.out, ←Hge.out]
 refine wp_scope_once 0 rfl ?_
 go_wp2_with fail
 obtain ⟨gw,hgw⟩:∃g,g=w1.heap.size:=⟨_,rfl⟩
 obtain ⟨gh,hgh⟩:∃g,g=w1.heap.size+1:=⟨_,rfl⟩
 obtain ⟨w2,hw2⟩:∃w2,w2=(w1.alloc (.cells (Array.replicate N (bo false)) 4)).alloc (.cells (Array.replicate N (iv 0)) 3):=⟨_,rfl⟩
 have eB:Array.replicate N (bo false)=((List.replicate N false).map bo).toArray:=by simp
 have eI:Array.replicate N (iv 0)=((List.replicate N (0:Int)).map iv).toArray:=by simp
 have hb12:Below w1.heap.size w1 w2:=by rw[hw2];exact ((Below.refl _ _).alloc (Nat.le_refl _) _).alloc (by simp) _
 have hL2:OwnL w2 w1.heap.size (some ⟨gw,0,none⟩) N N (List.replicate N false):=by
  rw[hw2,hgw,eB];exact Own.below (OwnL.lit w1 N (by omega) _ (by simp)) ((Below.refl _ _).alloc (Nat.le_refl _) _) (Nat.le_refl _)
 have hI2:OwnI w2 w1.heap.size (some ⟨gh,0,none⟩) N N (List.replicate N 0):=by
  rw[hw2,hgh,eB,eI];have h:=OwnI.lit (w1.alloc (.cells ((List.replicate N false).map bo).toArray 4)) N (by omega) (List.replicate N 0) (by simp)
  rw[World.size_alloc] at h;exact Own.mono h (by omega)
 have hghw:gw<gh:=by omega
 have Hgw:=Lib.hid hgw
 have Hgh:=Lib.hid hgh
 have HB12:=Lib.hid hb12
 have HL2:=Lib.hid hL2
 have HI2:=Lib.hid hI2
 have Hw2:=Lib.hid hw2
 clear eB eI hw2 hb12 hL2 hI2 hgw hgh hmkI hmkB x0 x1 x2 xl q3 hb
 try simp only[List.length_map,List.length_replicate]
 rw[←Hw2.out, ←Hgh.out, ←Hgw.out]
 go_loopw [30] (fun i wr=>∃k:Nat,k≤N∧i= .int .i64 k∧OwnI wr w1.heap.size (some ⟨gh,0,none⟩) N N (List.replicate k (-1)++List.replicate (N-k) 0)∧Only (fun b=>b=gh) w2 wr) (fun i _=>N-(intOf i).toNat)
 case atStart=>exact ⟨0,Nat.zero_le _,rfl,HI2.out,Only.refl _ _⟩
 case round=>
  rename World=>w3;obtain ⟨k,hk,rfl,hI,hO⟩:=hrel;by_cases hlt:k<N
  ·have g1:(k:Int)<(N:Int):=by omega
   have c0:=OwnI.at_ hI k (by simp;omega)
   obtain ⟨cf,cl⟩:=OwnI.room hI k (by simp;omega)
   have hI3:=OwnI.put hI k (-1);rw[rep_next k N hlt] at hI3;have HI3:=Lib.hid hI3;have HO3:=Lib.hid (hO.setCell (p:=⟨gh,k,none⟩) (.inl rfl) (.int .i64 (-1)));generalize (List.replicate k (-1:Int)++List.replicate (N-k) 0)[k]'(by simp;omega)=u0 at c0
   clear hI hO hI3;go_wp2_with fail
   exact ⟨⟨k+1,by omega,by go_num,HI3.out,HO3.out⟩,by simp[intOf];omega⟩
  obtain rfl:k=N:=by omega
  rw[Nat.sub_self,List.replicate_zero,List.append_nil] at hI;have hL:=Own.only HL2.out hO fun b o e e2=>by injection e with e;injection e with e;omega
  have hB:=hO.below (B:=w1.heap.size) HB12.out.size (by have:=Hgh.out;intro k hk e;omega)
  have c0:=OwnI.at_ hI 0 (by simp;omega)
  obtain ⟨cf0,cl0⟩:=OwnI.room hI 0 (by simp;omega)
  have c1:=OwnL.at_ hL 0 (by simp;omega)
  obtain ⟨cf1,cl1⟩:=OwnL.room hL 0 (by simp;omega)
  generalize (List.replicate k (-1:Int))[0]'(by simp;omega)=u0 at c0
  generalize (List.replicate k false)[0]'(by simp;omega)=u1 at c1
  have HI3:=Lib.hid hI;have HL3:=Lib.hid hL;have HB13:=Lib.hid (HB12.out.trans hB);clear hI hL hB hO HI2 HL2;go_wp2_with fail
  have hI4:OwnI ((w3.setCell ⟨gh,0,none⟩ (.int .i64 0)).setCell ⟨gw,0,none⟩ (.bool true)) w1.heap.size (some ⟨gh,0,none⟩) k k (h0L k):=Own.fars (OwnI.put HI3.out 0 0) (fun e=>by injection e with e;change gh=gw at e;omega) _
  have hL4:OwnL ((w3.setCell ⟨gh,0,none⟩ (.int .i64 0)).setCell ⟨gw,0,none⟩ (.bool true)) w1.heap.size (some ⟨gw,0,none⟩) k k (w0L k):=OwnL.put (Own.fars HL3.out (fun e=>by injection e with e;change gw=gh at e;omega) _) 0 true
  have hB4:Below w1.heap.size w1 ((w3.setCell ⟨gh,0,none⟩ (.int .i64 0)).setCell ⟨gw,0,none⟩ (.bool true)):=(HB13.out.setCell (by have:=Hgh.out;show _≤gh;omega) _).setCell (by have:=Hgw.out;show _≤gw;omega) _
  generalize (w3.setCell ⟨gh,0,none⟩ (.int .i64 0)).setCell ⟨gw,0,none⟩ (.bool true)=w4 at*
  have HI4:=Lib.hid hI4;have HL4:=Lib.hid hL4;have HB4:=Lib.hid hB4;have HS:=Lib.hid (HInv.start (P:=p.plain) (f:=f) hN0);clear hI4 hL4 hB4 HI3 HL3 HB13 c0 c1 cf0 cf1 cl0 cl1 HB12 Hw2;go_step3
  go_wp2_with fail
  go_loopw [4,5,10] (fun v t a wr=>∃(at_:Nat) (top:Int) (hs:List Int) (ws:List Bool),at_≤k∧v= .slice (some ⟨gh,0,none⟩) k k∧t= .int .i64 top∧a= .int .i64 at_∧HInv p.plain f k hs ws at_ top∧OwnI wr w1.heap.size (some ⟨gh,0,none⟩) k k hs∧OwnL wr w1.heap.size (some ⟨gw,0,none⟩) k k ws∧Below w1.heap.size w1 wr)
   (fun _ _ a wr=>left (rdI wr gh k) (rdB wr gw k)*(k+2)+(k-(intOf a).toNat))
  case atStart=>exact ⟨0,0,_,_,Nat.zero_le _,rfl,rfl,rfl,HS.out,HI4.out,HL4.out,HB4.out⟩
  rename World=>w5;obtain ⟨at_,top,hs,ws,hat,rfl,rfl,rfl,hH,hI,hL,hB⟩:=hrel;have HH:=Lib.hid hH;have HI:=Lib.hid hI;have HL:=Lib.hid hL;have HB:=Lib.hid hB;have hlh:=hH.lh;have hlw:=hH.lw;have Hm:=Lib.hid (show left (rdI w5 gh k) (rdB w5 gw k)=left hs ws from by rw[rdI_own hI hlh,rdB_own hL hlw])
  by_cases hend:at_=k
  ·subst hend;have e0:w5.cell? ⟨ge,0,none⟩=some (.int .i64 0):=(HE.out.below hB HE.out.lt).cell 0;have e1:w5.cell? ⟨ge,1,none⟩=some (.int .i64 0):=(HE.out.below hB HE.out.lt).cell 1;have e2:w5.cell? ⟨ge,2,none⟩=some (.int .i64 0):=(HE.out.below hB HE.out.lt).cell 2;have ef0:w5.frozen? ⟨ge,0,none⟩=false:=(HE.out.below hB HE.out.lt).frozen 0;have ef1:w5.frozen? ⟨ge,1,none⟩=false:=(HE.out.below hB HE.out.lt).frozen 1;have ef2:w5.frozen? ⟨ge,2,none⟩=false:=(HE.out.below hB HE.out.lt).frozen 2;have el:=(HE.out.below hB HE.out.lt).lt;clear hH hI hL hB;go_wp2_with fail
   go_step3
   refine ⟨rfl,?_⟩;go_wp2_with fail
   try rw[Exit.noGoto_ret]
   have hBe:Below w.heap.size w (((w5.setCell ⟨ge,0,none⟩ (.int .i64 0)).setCell ⟨ge,1,none⟩ (.int .i64 0)).setCell ⟨ge,2,none⟩ (.int .i64 0)):=(((HB1.out.trans (HB.out.mono HB1.out.size)).setCell hgb _).setCell hgb _).setCell hgb _;have hge1:=Hge.out;have hgh1:=Hgh.out;have hOe:OwnI (((w5.setCell ⟨ge,0,none⟩ (.int .i64 0)).setCell ⟨ge,1,none⟩ (.int .i64 0)).setCell ⟨ge,2,none⟩ (.int .i64 0)) w1.heap.size (some ⟨gh,0,none⟩) at_ at_ hs:=Own.fars (Own.fars (Own.fars HI.out (fun e=>by injection e with e;change gh=ge at e;have:=HE.out.lt;omega) _) (fun e=>by injection e with e;change gh=ge at e;have:=HE.out.lt;omega) _) (fun e=>by injection e with e;change gh=ge at e;have:=HE.out.lt;omega) _
   obtain ⟨hr1,hr2⟩:=HH.out.fin;refine bodyPost_ret (v:=.tuple #[.slice (some ⟨gh,0,none⟩) at_ at_,.int .i64 top,.agg #[.int .i64 0,.int .i64 0,.int .i64 0]]) ?_ rfl ⟨hBe,.inl ⟨hs,top,some ⟨gh,0,none⟩,at_,by rw[Hlen.out];exact hr1,by rw[Hlen.out];exact hlh,hr2,by rw[hlh];rfl,by rw[hlh];exact Own.mono hOe HB1.out.size⟩⟩
   simp[results,Try.results38,go_sem,e0,e1,e2]
  have hlt2:at_<k:=by omega
  have g2:(at_:Int)<(k:Int):=by omega
  have g3:((at_:Int)==(k:Int))=false:=by rw[beq_eq_false_iff_ne];omega
  have c1:=OwnL.at_ hL at_ (by omega)
  obtain ⟨cf1,cl1⟩:=OwnL.room hL at_ (by omega)
  obtain ⟨u,hu⟩:∃u,ws[at_]?=some u:=⟨_,List.getElem?_eq_getElem (by omega)⟩
  have hu2:ws[at_]'(by omega)=u:=(List.getElem?_eq_some_iff.1 hu).2
  rw[hu2] at c1;have Hu:=Lib.hid hu;clear hu hu2 hH hI hL hB;cases u with
  |false=>
   have HH2:=Lib.hid (HH.out.skip Hu.out);go_wp2_with fail
   exact ⟨⟨at_+1,top,hs,ws,by omega,rfl,rfl,by go_num,HH2.out,HI.out,HL.out,HB.out⟩,by rw[Hm.out];simp[intOf];omega⟩
  |true=>
   obtain ⟨x,hx,hx0⟩:=HH.out.wt at_ Hu.out;have hxb:=HH.out.bnd at_ x hx;obtain ⟨i,hi⟩:∃i,g.code[at_]?=some i:=⟨_,List.getElem?_eq_getElem (by have:=HN.out;omega)⟩
   have hins:p.plain.ins f at_=some i:=by rw[PrgM.ins_plain,Hgf.out,Option.bind_some,hi]
   have hfac:=ins_facts Hgood.out.chk hins;have HL6:=Lib.hid (OwnL.put HL.out at_ false);have HI6:=Lib.hid (show OwnI (w5.setCell ⟨gw,at_,none⟩ (.bool false)) w1.heap.size (some ⟨gh,0,none⟩) k k hs from Own.fars HI.out (fun e=>by injection e with e;change gh=gw at e;omega) _)
   have HB6:=Lib.hid (HB.out.setCell (show w1.heap.size≤(⟨gw,at_,none⟩:Addr).block from by have:=Hgw.out;show _≤gw;omega) (.bool false))
   have Hx:=Lib.hid hx;have Hins:=Lib.hid hins;have Hfac:=Lib.hid hfac;have Hi:=Lib.hid hi;clear hx hins hfac hi;go_wp2_with fail
   generalize w5.setCell ⟨gw,at_,none⟩ (.bool false)=w6 at*
   clear c1 cf1 cl1;have hX6:=HX.out.below HB6.out HX.out.lt;have hxl6:=hX6.lt
   have hc6:w6.cell? ⟨gh,at_,none⟩=some (.int .i64 x):=by
    have h1:=OwnI.at_ HI6.out at_ (by omega)
    rw[(List.getElem?_eq_some_iff.1 Hx.out).2] at h1;exact h1
   have hcl6:=(OwnI.room HI6.out at_ (by omega)).2
   have X0:∀v:BW w6.heap.size w6,v.w.cell? ⟨gx,0,none⟩=some (.int .i64 p.mem):=fun v=>(v.blk hX6 hxl6).cell 0;have X1:∀v:BW w6.heap.size w6,v.w.cell? ⟨gx,1,none⟩=some (.slice p.AD p.data.length p.cD):=fun v=>(v.blk hX6 hxl6).cell 1;have X2:∀v:BW w6.heap.size w6,v.w.cell? ⟨gx,2,none⟩=some (.slice p.AF p.fs.length p.cF):=fun v=>(v.blk hX6 hxl6).cell 2;have X3:∀v:BW w6.heap.size w6,v.w.cell? ⟨gh,at_,none⟩=some (.int .i64 x):=fun v=>by rw[(bcell v.h).1 _ _ hcl6];exact hc6
   obtain ⟨E,b2,hst⟩:∃E b2,standI p.plain f at_ i x=(E,b2):=⟨_,_,rfl⟩;have Hst:=Lib.hid hst
   have Hcall:Hid (∀v:BW w6.heap.size w6,Calls Try.prog 62 #[p.val,.agg #[.int .i64 (f:Int),.int .i64 (at_:Int)],.int .i64 x] v.w fun e w'=>e= .returned (.tuple #[.int .i64 E,.int .i64 b2])∧Below v.w.heap.size v.w w'):=Lib.hid fun v=>by
    have h:=stand_any p f at_ x i v.w (((HP.out.below HB6.out).below v.h)) (Hfac.out.stand Hins.out) (by omega) (by omega)
    rw[Hst.out] at h;exact h
   clear hX6 hc6 hst;refine region_inB w6.heap.size w6 (Below.refl _ _) (by kernel_rfl) (by kernel_rfl) ?_
   repeat (go_big_quiet_step (with_reducible exact Calls.inBat _ (Hcall.out _) (Nat.le_refl _)))
   refine wpQuiet_nil ?_;intro w7 hb67;have HI7:=Lib.hid (show OwnI w7 w1.heap.size (some ⟨gh,0,none⟩) k k hs from Own.below HI6.out hb67 (Nat.le_refl _))
   have HL7:=Lib.hid (show OwnL w7 w1.heap.size (some ⟨gw,0,none⟩) k k (ws.set at_ false) from Own.below HL6.out hb67 (Nat.le_refl _))
   have hz16:=HB6.out.size;have HB7:=Lib.hid (HB6.out.trans (hb67.mono hz16));clear hb67 X0 X1 X2 X3 Hcall HI6 HL6 HB6;by_cases hE:E=0
   ·subst hE;obtain ⟨hb2,hb20,hb21,hgo,-⟩:=stand_ok Hfac.out hx0 Hst.out;have hgp:=Hfac.out.goes;have hF7:=(HF.out.below HB7.out);obtain ⟨ba,oa,hA7,hba,r0,r1,hio,-⟩:=hF7.ins Hi.out
    have c2:w7.cell? ⟨gh,at_,none⟩=some (.int .i64 x):=by
     have h1:=OwnI.at_ HI7.out at_ (by omega)
     rw[(List.getElem?_eq_some_iff.1 Hx.out).2] at h1;exact h1
    have cl2:=(OwnI.room HI7.out at_ (by omega)).2
    have Hgo:=Lib.hid (goes_any i at_ w7 hio (by omega))
    have hgA:=HgA.out.trans hA7;subst hgA;have Hgoes:=Lib.hid (show ∀y∈goesL i at_,0≤y∧y<(k:Int) from fun y hy=>⟨hgp y hy,by have:=hgo y hy;rw[Hlen.out] at this;exact this⟩)
    have HS0:=Lib.hid (SInv.start HH.out Hfac.out Hx.out hx0 Hu.out Hst.out (goN i at_));have hgl:=goesL_len i at_;clear hb2 hgo hgp hF7 hA7 hio;have hmx:=run_max3 top x b2;obtain ⟨top2,htop2⟩:∃t,t=max (max top x) b2:=⟨_,rfl⟩;rw[←htop2] at hmx;have HS1:=Lib.hid (show SInv p.plain f k b2 (goN i at_) hs (ws.set at_ false) 0 hs (ws.set at_ false) at_ top2 from by rw[htop2];exact HS0.out)
    clear htop2 HS0;obtain ⟨op,a⟩:=i;dsimp only at r0 r1;go_wp2_with fail
    refine Hgo.out.mono ?_;rintro e w8 ⟨A8,c8,rfl,hown8,hb78⟩;obtain ⟨gN,hgN⟩:∃l,l=goN ⟨op,a⟩ at_:=⟨_,rfl⟩;have hGl:(goesL ⟨op,a⟩ at_).length=gN.length:=by rw[hgN];unfold goN;rw[List.length_map]
    have hGe:∀j,(h:j<gN.length)→(goesL ⟨op,a⟩ at_)[j]?=some (gN[j]:Int)∧gN[j]<k:=fun j h=>by
     have h1:j<(goesL ⟨op,a⟩ at_).length:=by omega
     obtain ⟨y0,y1⟩:=Hgoes.out _ (List.getElem_mem h1);have e2:gN[j]?=some ((goesL ⟨op,a⟩ at_)[j]).toNat:=by rw[hgN];unfold goN;rw[List.getElem?_map,List.getElem?_eq_getElem h1];rfl
     have e:=(List.getElem?_eq_some_iff.1 e2).2;rw[List.getElem?_eq_getElem h1];exact ⟨by rw[e];congr 1;omega,by rw[e];omega⟩
    rw[hGl] at hgl hown8 ⊢;rw[←hgN] at HS1;have HgN:=Lib.hid hgN;generalize goesL ⟨op,a⟩ at_=G at*
    have HGe:=Lib.hid hGe;have HGl:=Lib.hid hGl;have HO8:=Lib.hid hown8;have HI8:=Lib.hid (Own.below HI7.out hb78 (Nat.le_refl _));have HL8:=Lib.hid (Own.below HL7.out hb78 (Nat.le_refl _));have HB8:=Lib.hid (HB7.out.trans (hb78.mono HB7.out.size));have hghl:gh<w7.heap.size:=cl2;clear hGe hgN hGl hown8 hb78 c2 cl2 r0 r1 hba hmx Hgo HI7 HL7;go_wp2_with fail
    go_loopw [4,5,13,89] (fun v t l i wr=>∃(j least:Nat) (hs':List Int) (ws':List Bool),j≤gN.length∧least≤at_∧v= .slice (some ⟨gh,0,none⟩) k k∧t= .int .i64 top2∧l= .int .i64 least∧i= .int .i64 j∧
      SInv p.plain f k b2 gN hs (ws.set at_ false) j hs' ws' least top2∧OwnI wr w1.heap.size (some ⟨gh,0,none⟩) k k hs'∧OwnL wr w1.heap.size (some ⟨gw,0,none⟩) k k ws'∧OwnI wr w7.heap.size A8 gN.length c8 G∧Below w1.heap.size w1 wr)
     (fun _ _ _ i _=>gN.length-(intOf i).toNat)
    case atStart=>exact ⟨0,at_,hs,_,Nat.zero_le _,Nat.le_refl _,rfl,rfl,rfl,rfl,HS1.out,HI8.out,HL8.out,HO8.out,HB8.out⟩
    rename World=>w9;clear HS1 HI8 HL8 HO8;obtain ⟨j,least,hs',ws',hj,hla,rfl,rfl,rfl,rfl,hS,hI,hL,hG,hB⟩:=hrel;have HS2:=Lib.hid hS;have HI9:=Lib.hid hI;have HL9:=Lib.hid hL;have HG9:=Lib.hid hG;have HB9:=Lib.hid hB;have hlh9:=hS.lh;have hlw9:=hS.lw;by_cases hjl:j<gN.length
    ·have g4:(j:Int)<(gN.length:Int):=by omega
     obtain ⟨hgj,hgk⟩:=HGe.out j hjl;obtain ⟨ga,rfl,hga7,hgal⟩:=own_some hG (by omega)
     have hjG:j<G.length:=(List.getElem?_eq_some_iff.1 hgj).1;have c3:=OwnI.at_ hG j hjG;rw[(List.getElem?_eq_some_iff.1 hgj).2] at c3;obtain ⟨y,hy⟩:∃y,gN[j]=y:=⟨_,rfl⟩;rw[hy] at c3 hgk;have hyk:(y:Int)<(k:Int):=by omega
     have c4:=OwnI.at_ hI y (by omega)
     obtain ⟨cf4,cl4⟩:=OwnI.room hI y (by omega)
     have c5:=OwnL.at_ hL y (by omega)
     obtain ⟨cf5,cl5⟩:=OwnL.room hL y (by omega)
     obtain ⟨u,hu⟩:∃u,hs'[y]?=some u:=⟨_,List.getElem?_eq_getElem (by omega)⟩
     rw[(List.getElem?_eq_some_iff.1 hu).2] at c4;generalize ws'[y]'(by omega)=u5 at c5
     have Hy:=Lib.hid hy;have Hu2:=Lib.hid hu;clear hy hu hgj hS hI hL hG hB;by_cases hu1:u= -1
     ·subst hu1;have hI10:OwnI ((w9.setCell ⟨gh,y,none⟩ (.int .i64 b2)).setCell ⟨gw,y,none⟩ (.bool true)) w1.heap.size (some ⟨gh,0,none⟩) k k (hs'.set y b2):=Own.fars (OwnI.put HI9.out y b2) (fun e=>by injection e with e;change gh=gw at e;omega) _
      have hL10:OwnL ((w9.setCell ⟨gh,y,none⟩ (.int .i64 b2)).setCell ⟨gw,y,none⟩ (.bool true)) w1.heap.size (some ⟨gw,0,none⟩) k k (ws'.set y true):=OwnL.put (Own.fars HL9.out (fun e=>by injection e with e;change gw=gh at e;omega) _) y true
      have hG10:OwnI ((w9.setCell ⟨gh,y,none⟩ (.int .i64 b2)).setCell ⟨gw,y,none⟩ (.bool true)) w7.heap.size (some ⟨ga,0,none⟩) gN.length c8 G:=Own.fars (Own.fars HG9.out (fun e=>by injection e with e;change ga=gh at e;omega) _) (fun e=>by injection e with e;change ga=gw at e;omega) _
      have hB10:Below w1.heap.size w1 ((w9.setCell ⟨gh,y,none⟩ (.int .i64 b2)).setCell ⟨gw,y,none⟩ (.bool true)):=(HB9.out.setCell (by have:=Hgh.out;show _≤gh;omega) _).setCell (by have:=Hgw.out;show _≤gw;omega) _
      have hS10:=HS2.out.mark hb20 hb21 hjl Hy.out Hu2.out;have HI10:=Lib.hid hI10;have HL10:=Lib.hid hL10;have HG10:=Lib.hid hG10;have HB10:=Lib.hid hB10;have HS10:=Lib.hid hS10;clear hI10 hL10 hG10 hB10 hS10;by_cases hyl:y<least
      ·have g5:(y:Int)<(least:Int):=by omega
       have hmn:min least y=y:=by omega
       have HS11:=Lib.hid (show SInv p.plain f k b2 gN hs (ws.set at_ false) (j+1) (hs'.set y b2) (ws'.set y true) y top2 from by have h:=HS10.out;rw[hmn] at h;exact h)
       clear hmn;go_wp2_with fail
       exact ⟨⟨j+1,y,_,_,by omega,by omega,rfl,rfl,rfl,by go_num,HS11.out,HI10.out,HL10.out,HG10.out,HB10.out⟩,by simp[intOf];omega⟩
      have g5: ¬ (y:Int)<(least:Int):=by omega
      have hmn:min least y=least:=by omega
      have HS11:=Lib.hid (show SInv p.plain f k b2 gN hs (ws.set at_ false) (j+1) (hs'.set y b2) (ws'.set y true) least top2 from by have h:=HS10.out;rw[hmn] at h;exact h)
      clear hmn;go_wp2_with fail
      exact ⟨⟨j+1,least,_,_,by omega,hla,rfl,rfl,rfl,by go_num,HS11.out,HI10.out,HL10.out,HG10.out,HB10.out⟩,by simp[intOf];omega⟩
     have hu1b:(u== -1)=false:=by rw[beq_eq_false_iff_ne];exact hu1
     by_cases hub:u=b2
     ·subst hub;have HS11:=Lib.hid (HS2.out.pass hb20 hjl Hy.out Hu2.out);go_wp2_with fail
      exact ⟨⟨j+1,least,_,_,by omega,hla,rfl,rfl,rfl,by go_num,HS11.out,HI9.out,HL9.out,HG9.out,HB9.out⟩,by simp[intOf];omega⟩
     have hubb:(u==b2)=false:=by rw[beq_eq_false_iff_ne];exact hub
     have hnone:=HS2.out.none hjl Hy.out (by rw[Hu2.out];intro h;injection h with h;exact hu1 h) (by rw[Hu2.out];intro h;injection h with h;exact hub h)
     rw[HgN.out] at hnone;have e0:w9.cell? ⟨ge,0,none⟩=some (.int .i64 0):=(HE.out.below HB9.out HE.out.lt).cell 0;have e1:w9.cell? ⟨ge,1,none⟩=some (.int .i64 0):=(HE.out.below HB9.out HE.out.lt).cell 1;have e2:w9.cell? ⟨ge,2,none⟩=some (.int .i64 0):=(HE.out.below HB9.out HE.out.lt).cell 2;have ef0:w9.frozen? ⟨ge,0,none⟩=false:=(HE.out.below HB9.out HE.out.lt).frozen 0;have ef1:w9.frozen? ⟨ge,1,none⟩=false:=(HE.out.below HB9.out HE.out.lt).frozen 1;have ef2:w9.frozen? ⟨ge,2,none⟩=false:=(HE.out.below HB9.out HE.out.lt).frozen 2;have el:=(HE.out.below HB9.out HE.out.lt).lt
     have HFin:=Lib.hid (show HgtPost p.plain f w (.returned (.tuple #[.slice none 0 0,.int .i64 0,.agg #[.int .i64 136,.int .i64 (f:Int),.int .i64 (at_:Int)]])) (((w9.setCell ⟨ge,0,none⟩ (.int .i64 136)).setCell ⟨ge,1,none⟩ (.int .i64 (f:Int))).setCell ⟨ge,2,none⟩ (.int .i64 (at_:Int))) from
      ⟨(((HB1.out.trans (HB9.out.mono HB1.out.size)).setCell hgb _).setCell hgb _).setCell hgb _,.inr ⟨136,at_,by rw[Hlen.out];exact HH.out.run _ (.join Hu.out HH.out.low Hx.out Hins.out Hst.out hnone),by decide,rfl⟩⟩)
     clear hnone hu1 hub;go_wp2_with fail
     try simp only[Exit.jump]
     refine bodyPost_ret (v:=.tuple #[.slice none 0 0,.int .i64 0,.agg #[.int .i64 136,.int .i64 (f:Int),.int .i64 (at_:Int)]]) ?_ rfl HFin.out;simp[results,Try.results38,go_sem,e0,e1,e2]
    obtain rfl:j=gN.length:=by omega
    have hfin:HInv p.plain f k hs' ws' least top2∧left hs' ws'<left hs ws:=by
     have h:=HS2.out;rw[HgN.out] at h;exact SInv.fin HH.out h Hx.out Hu.out Hins.out hb20 Hst.out
    have Hm2:=Lib.hid (show left (rdI w9 gh k) (rdB w9 gw k)=left hs' ws' from by rw[rdI_own hI hlh9,rdB_own hL hlw9])
    have HF2:=Lib.hid hfin;clear hS hI hL hG hB hfin;go_wp2_with fail
    refine ⟨⟨least,top2,hs',ws',by omega,rfl,rfl,rfl,HF2.out.1,HI9.out,HL9.out,HB9.out⟩,?_⟩
    rw[Hm.out,Hm2.out];have h1:=HF2.out.2;have h2:(left hs' ws'+1)*(k+2)≤left hs ws*(k+2):=Nat.mul_le_mul_right _ h1;rw[Nat.add_mul,Nat.one_mul] at h2;simp[intOf];omega
   have hEb:(E==0)=false:=by rw[beq_eq_false_iff_ne];exact hE
   have hEn:(E != 0)=true:=by rw[bne,hEb];rfl
   have e0:w7.cell? ⟨ge,0,none⟩=some (.int .i64 0):=(HE.out.below HB7.out HE.out.lt).cell 0;have e1:w7.cell? ⟨ge,1,none⟩=some (.int .i64 0):=(HE.out.below HB7.out HE.out.lt).cell 1;have e2:w7.cell? ⟨ge,2,none⟩=some (.int .i64 0):=(HE.out.below HB7.out HE.out.lt).cell 2;have ef0:w7.frozen? ⟨ge,0,none⟩=false:=(HE.out.below HB7.out HE.out.lt).frozen 0;have ef1:w7.frozen? ⟨ge,1,none⟩=false:=(HE.out.below HB7.out HE.out.lt).frozen 1;have ef2:w7.frozen? ⟨ge,2,none⟩=false:=(HE.out.below HB7.out HE.out.lt).frozen 2;have el:=(HE.out.below HB7.out HE.out.lt).lt
   have HFin:=Lib.hid (show HgtPost p.plain f w (.returned (.tuple #[.slice none 0 0,.int .i64 0,.agg #[.int .i64 E,.int .i64 (f:Int),.int .i64 (at_:Int)]])) (((w7.setCell ⟨ge,0,none⟩ (.int .i64 E)).setCell ⟨ge,1,none⟩ (.int .i64 (f:Int))).setCell ⟨ge,2,none⟩ (.int .i64 (at_:Int))) from
    ⟨(((HB1.out.trans (HB7.out.mono HB1.out.size)).setCell hgb _).setCell hgb _).setCell hgb _,.inr ⟨E,at_,by rw[Hlen.out];exact HH.out.run _ (.bad Hu.out HH.out.low Hx.out Hins.out Hst.out hE),hE,rfl⟩⟩)
   go_wp2_with fail
   try simp only[Exit.jump]
   refine bodyPost_ret (v:=.tuple #[.slice none 0 0,.int .i64 0,.agg #[.int .i64 E,.int .i64 (f:Int),.int .i64 (at_:Int)]]) ?_ rfl HFin.out;simp[results,Try.results38,go_sem,e0,e1,e2]
end Go.Proofs.Ytcmpmhlcfalbhaa
