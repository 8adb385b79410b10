import Derived.Test.YtcmpmhlcfalbhaaV11
import Derived.Test.YtcmpmhlcfalbhaaV28
import Derived.Test.YtcmpmhlcfalbhaaV22
import Derived.Carry
import Derived.Maps.RangeWalk
namespace Go.Proofs.Ytcmpmhlcfalbhaa
open Go.RowKit
def Str (P:Prg) (hs:List (List Int)):Prop:=∀f,Reach (cg P hs) 0 f→∀n,Reach (nxF P f) 0 n→¬ Cyc (nxF P f) n
def CellsIs (P:Prg) (hs:List (List Int)) (tops:List Int) (x:Int):Prop:=(¬ Acyc P hs∧x= -1)∨(Acyc P hs∧∃c,CellsEq P hs tops c∧x=c 0)
def CostIs (P:Prg) (hs:List (List Int)) (x:Int):Prop:=(¬ (Acyc P hs∧Str P hs)∧x= -1)∨(Acyc P hs∧Str P hs∧x=if kcL P 0≤1099511627776 then kcL P 0 else -1)
def LookPost (p:PrgM) (hs:List (List Int)) (tops:List Int) (bx bm n:Nat) (vH vT vL:Value) (w:World) (e:Ending) (w':World):Prop:=
 e= .returned (.tuple #[])∧∃gL ce co live,Blk w' bx 32 #[vH,vT,vL,.slice (some ⟨gL,0,none⟩) n n,.int .i64 ce,.int .i64 co]∧OwnL w' 0 (some ⟨gL,0,none⟩) n n live∧live.length=n∧(∀v:Nat,live[v]?=some true↔Reach (cg p.plain hs) 0 v)∧
  w.heap.size≤gL∧CellsIs p.plain hs tops ce∧CostIs p.plain hs co∧Only (fun k=>k=bx∨k=bm) w w'
def LM (wq:World) (bx:Nat) (lps:List (List Int)) (AL:Option Addr) (n:Nat):Prop:=
 ∀f,f<n→∃b off A c,AL=some ⟨b,off,none⟩∧b≠bx∧b<wq.heap.size∧wq.cell? ⟨b,off+f,none⟩=some (.slice A (lps.getD f []).length c)
theorem LM.only {wq w:World} {bx n:Nat} {lps:List (List Int)} {AL:Option Addr} {S:Nat→Prop} (h:LM wq bx lps AL n) (ho:Only S wq w) (hS:∀b off,AL=some ⟨b,off,none⟩→b≠bx→¬ S b):LM w bx lps AL n:=fun f hf=>by
 obtain ⟨b,off,A,c,h1,h2,h3,h4⟩:=h f hf;have hz:=ho.size;exact ⟨b,off,A,c,h1,h2,by omega,by rw[ho.cell (p:=⟨b,off+f,none⟩) h3 (hS b off h1 h2)];exact h4⟩
theorem FM.keep {w w':World} {bx bm n:Nat} {P:Prg} {hs:List (List Int)} {tops:List Int} {AH AT AL:Option Addr} (h:FM w bx P hs tops AH AT n) (ho:Only (fun k=>k=bx∨k=bm) w w')
  (hbm:∀f,f<n→∀b off,AH=some ⟨b,off,none⟩→∀rb ro c,w.cell? ⟨b,off+f,none⟩=some (.slice (some ⟨rb,ro,none⟩) (P.len f) c)→b≠bm∧rb≠bm) (hbl:∀b off,(AL=some ⟨b,off,none⟩∨AT=some ⟨b,off,none⟩)→b≠bm):FM w' bx P hs tops AH AT n:=by
 refine ⟨fun f hf=>?_,fun f hf=>?_⟩
 ·obtain ⟨b,off,rb,ro,rc,h1,h2,h3,h4,h5,h6,h7⟩:=h.hrow f hf;have hz:=ho.size;obtain ⟨m1,m2⟩:=hbm f hf b off h1 rb ro rc h4;refine ⟨b,off,rb,ro,rc,h1,h2,by omega,by rw[ho.cell (p:=⟨b,off+f,none⟩) h3 (fun e=>e.elim h2 m1)];exact h4,h5,by omega,fun j hj=>?_⟩
  rw[ho.cell (p:=⟨rb,ro+j,none⟩) h6 (fun e=>e.elim h5 m2)];exact h7 j hj
 ·obtain ⟨b,off,h1,h2,h3,h4⟩:=h.trow f hf;have hz:=ho.size;exact ⟨b,off,h1,h2,by omega,by rw[ho.cell (p:=⟨b,off+f,none⟩) h3 (fun e=>e.elim h2 (hbl b off (.inr h1)))];exact h4⟩
def callsP (P:Prg) (hs:List (List Int)) (f j:Nat):Nat→List Int:=fun g=>if g<f then callsI P hs g else if g=f then ((List.range j).filter (isCall P hs f)).map fun (n:Nat)=>(n:Int) else []
theorem callsP_start (P:Prg) (hs:List (List Int)):(fun _=>[])=callsP P hs 0 0:=by
 funext g
 unfold callsP;rw[if_neg (by omega)]
 split<;>rfl
theorem callsP_row (P:Prg) (hs:List (List Int)) (f:Nat):callsP P hs f (P.len f)=callsP P hs (f+1) 0:=by
 funext g
 unfold callsP;by_cases h1:g<f
 ·rw[if_pos h1,if_pos (by omega)]
 rw[if_neg h1];by_cases h2:g=f
 ·subst h2;rw[if_pos rfl,if_pos (by omega)];rfl
 rw[if_neg h2,if_neg (by omega)]
 split<;>rfl
theorem callsP_no {P:Prg} {hs:List (List Int)} {f j:Nat} (h:isCall P hs f j=false):callsP P hs f j=callsP P hs f (j+1):=by
 funext g
 unfold callsP;rw[List.range_succ,List.filter_append,List.filter_cons_of_neg (by rw[h];decide),List.filter_nil,List.append_nil]
theorem callsP_yes {P:Prg} {hs:List (List Int)} {f j:Nat} (h:isCall P hs f j=true):(fun g=>if g=f then callsP P hs f j f++[(j:Int)] else callsP P hs f j g)=callsP P hs f (j+1):=by
 funext g
 by_cases e:g=f
 ·subst e;rw[if_pos rfl];unfold callsP;rw[if_neg (by omega),if_pos rfl,if_neg (by omega),if_pos rfl,List.range_succ,List.filter_append,List.filter_cons_of_pos h,List.filter_nil,List.map_append]
  rfl
 rw[if_neg e];unfold callsP;rw[if_neg e,if_neg e]
theorem callsP_end {P:Prg} {hs:List (List Int)} {n g:Nat} (h:g<n):callsP P hs n 0 g=callsI P hs g:=by
 unfold callsP;rw[if_pos h]
theorem isCall_ht {P:Prg} {hs:List (List Int)} {f j:Nat} {i:Ins} (hi:P.ins f j=some i):isCall P hs f j=(decide (i.op=17)&&decide (0≤htAt hs f j)):=by
 unfold isCall;rw[hi]
theorem GMap.empty {w:World} {bm base:Nat} (h:w.heap[bm]?=some (.map #[] 0)) (hb:bm<base):GMap w bm base 0 (fun _=>[]):=
 ⟨_,⟨#[],0,h,⟨by simp,MapKept.stamped_empty 0,by simp⟩,Nat.le_refl _,rfl,hb,by simp,by simp⟩,⟨_,rfl⟩,fun f _=>by unfold gDat;rw[if_pos rfl];rfl⟩
attribute [local go_sem] run_makeMap
set_option maxRecDepth 100000 in
set_option maxHeartbeats 8000000 in
theorem look_any {p:PrgM} {hs lps:List (List Int)} {tops:List Int} {w0 w:World} {AH AT AL:Option Addr} {cH cT cL bw bx bm n:Nat} (hg:Good p.plain) (hn:p.fs.length=n) (hp0:PrgAt w0 p) (hb0:Below w0.heap.size w0 w)
  (hX:Blk w bx 32 #[.slice AH n cH,.slice AT n cT,.slice AL n cL,.slice none 0 0,.int .i64 0,.int .i64 0]) (hW:Blk w bw 83 #[.int .i64 p.mem,.slice p.AD p.data.length p.cD,.slice p.AF p.fs.length p.cF,.pointer (some ⟨bx,0,none⟩),.map (some bm)])
  (hM:GMap w bm w.heap.size 0 (fun _=>[])) (hx0:w0.heap.size≤bx) (hxm:bx<bm) (hmw:bm<bw) (hF:FM w bx p.plain hs tops AH AT n) (hL:LM w bx lps AL n) (hWF:WhF p.plain hs tops) (hfin:∀f,f<n→HFin p.plain f (hs.getD f []))
  (hlp:∀f,f<n→((lps.getD f []).length=0↔∀v,Reach (nxF p.plain f) 0 v→¬ Cyc (nxF p.plain f) v)) (hbm:∀f,f<n→∀b off,AH=some ⟨b,off,none⟩→∀rb ro c,w.cell? ⟨b,off+f,none⟩=some (.slice (some ⟨rb,ro,none⟩) (p.plain.len f) c)→b≠bm∧rb≠bm)
  (hbl:∀b off,(AL=some ⟨b,off,none⟩∨AT=some ⟨b,off,none⟩)→b≠bm):
  Calls Try.prog 40 #[.pointer (some ⟨bw,0,none⟩)] w (LookPost p hs tops bx bm n (.slice AH n cH) (.slice AT n cT) (.slice AL n cL) w):=by
 have hn64:n≤64:=by have:=(good_many hg.chk).2;rw[←hn];simpa [PrgM.plain] using this
 have hn1:1≤n:=by have:=(good_many hg.chk).1;rw[←hn];simpa [PrgM.plain] using this
 have y2:w.cell? ⟨bw,2,none⟩=some (.slice p.AF p.fs.length p.cF):=hW.cell 2
 have wl:=hW.lt
 have HX:=Lib.hid hX
 have HW:=Lib.hid hW
 have HM:=Lib.hid hM
 have Hp0:=Lib.hid hp0
 have Hb0:=Lib.hid hb0
 have HF:=Lib.hid hF
 have HL:=Lib.hid hL
 have HWF:=Lib.hid hWF
 have Hfin:=Lib.hid hfin
 have Hlp:=Lib.hid hlp
 have Hbm:=Lib.hid hbm
 have Hbl:=Lib.hid hbl
 have Hn:=Lib.hid hn
 have HmL:=Lib.hid (show bm<w.heap.size by omega)
 have HsB:=Lib.hid (show bx<bm∧bm<bw∧bw<w.heap.size∧w0.heap.size≤bx from ⟨hxm,hmw,wl,hx0⟩)
 clear hX hW hM hp0 hb0 hF hL hWF hfin hlp hbm hbl
 rw[hn] at y2
 clear hn
 go_enter Try.func40,Try.ntmps40
 go_wp2_with fail
 go_loopw [27] (fun i wr=>∃f c:Nat,f≤n∧i= .int .i64 (f:Int)∧c≤f*4096∧GMap wr bm w.heap.size c (callsP p.plain hs f 0)∧Only (fun k=>k=bm) w wr) (fun i _=>n-(intOf i).toNat)
 case atStart=>exact ⟨0,0,Nat.zero_le _,rfl,Nat.le_refl _,by rw[←callsP_start];exact HM.out,Only.refl _ _⟩
 case round=>
  rename World=>wr;obtain ⟨f,c,hf,rfl,hc,hMr,hB⟩:=hrel;have HMr:=Lib.hid hMr;have HB:=Lib.hid hB;by_cases hlt:f<n
  ·have g1:(f:Int)<(n:Int):=by omega
   obtain ⟨g,hgf⟩:∃g,p.fs[f]?=some g:=⟨_,List.getElem?_eq_getElem (by rw[Hn.out];exact hlt)⟩
   have hPr:PrgAt wr p:=Hp0.out.below (Hb0.out.trans (hB.below (B:=w0.heap.size) Hb0.out.size fun k hk e=>by omega))
   obtain ⟨b0,off,hA,hb,q0,q1,q2,q3,hFn,hFl⟩:=hPr.fn hgf;have y2r:wr.cell? ⟨bw,2,none⟩=some (.slice (some ⟨b0,off,none⟩) n p.cF):=by rw[←hA, ←Hn.out];exact (HW.out.only hB (by omega)).cell 2
   obtain ⟨N,hN⟩:∃N,N=g.code.length:=⟨_,rfl⟩;have hlen:p.plain.len f=N:=by rw[hN];exact PrgM.len_plain hgf
   have hN2:N≤4096:=by rw[←hlen];exact good_len hg f
   rw[←hN] at q3;have HN:=Lib.hid hN;have Hlen:=Lib.hid hlen;have Hgf:=Lib.hid hgf;have HFn:=Lib.hid hFn;have HA0:=Lib.hid hA;clear hMr hB hPr hA hFn hN hlen hgf;rw[HA0.out];go_wp2_with fail
   go_loopw [35] (fun i wx=>∃j c2:Nat,j≤N∧i= .int .i64 (j:Int)∧c2≤f*4096+j∧GMap wx bm w.heap.size c2 (callsP p.plain hs f j)∧Only (fun k=>k=bm) w wx) (fun i _=>N-(intOf i).toNat)
   case atStart=>exact ⟨0,c,Nat.zero_le _,rfl,by omega,HMr.out.kept (World.grownBy_alloc _ _ none) (by simp) (by simp),HB.out.alloc _⟩
   clear HMr HB y2r q0 q1 q2 q3 hb wl y2;rename World=>wx;obtain ⟨j,c2,hj,rfl,hc2,hMx,hBx⟩:=hrel;have HMx:=Lib.hid hMx;have HBx:=Lib.hid hBx;by_cases hlt2:j<N
   ·have g2:(j:Int)<(N:Int):=by omega
    obtain ⟨i,hi⟩:=Prg.ins_ex (P:=p.plain) (f:=f) (n:=j) (by rw[Hlen.out];exact hlt2)
    have hi2:g.code[j]?=some i:=by rw[p.ins_plain,Hgf.out,Option.bind_some] at hi;exact hi
    have hPx:PrgAt wx p:=Hp0.out.below (Hb0.out.trans (hBx.below (B:=w0.heap.size) Hb0.out.size fun k hk e=>by omega))
    obtain ⟨b0',off',hA',hb',q0,q1,q2,q3,hFn,hFl⟩:=hPx.fn Hgf.out;obtain ⟨b1,off1,hA1,hb1,s0,s1,hiok,hNg⟩:=hFn.ins hi2;obtain ⟨bh,oh,rh,ph,rc,hAH,n1,k2,k1,n2,k4,k3⟩:=HF.out.hrow f hlt;obtain ⟨m1,m2⟩:=Hbm.out f hlt bh oh hAH rh ph rc k1;have x0:wx.cell? ⟨bx,0,none⟩=some (.slice AH n cH):=(HX.out.only hBx (by omega)).cell 0
    rw[hAH] at x0;have xl:=(HX.out.only hBx (by omega)).lt
    have y3:wx.cell? ⟨bw,3,none⟩=some (.pointer (some ⟨bx,0,none⟩)):=(HW.out.only hBx (by omega)).cell 3
    have y4:wx.cell? ⟨bw,4,none⟩=some (.map (some bm)):=(HW.out.only hBx (by omega)).cell 4
    have wl:=(HW.out.only hBx (by omega)).lt
    have hzx:=hBx.size;have hh1:=(hBx.cell (p:=⟨bh,oh+f,none⟩) k2 m1).trans k1;have hh2:bh<wx.heap.size:=by omega
    rw[Hlen.out] at k3 hh1;have hh3:=(hBx.cell (p:=⟨rh,ph+j,none⟩) k4 m2).trans (k3 j hlt2);have hh4:rh<wx.heap.size:=by omega
    obtain ⟨hv,hhv⟩:∃x,x=htAt hs f j:=⟨_,rfl⟩;rw[←hhv] at hh3;have hic:=isCall_ht (hs:=hs) hi;rw[←hhv] at hic;obtain ⟨op,a⟩:=i;dsimp only at s0 s1 hic;rw[hA1];have Hic:=Lib.hid hic;clear hMx hBx hi hi2 hPx hA' hFn hA1 hiok hAH k1 k3 hhv hic hb' q0 q1 q2 q3;by_cases h17:op=17
    ·by_cases hv0:0≤hv
     ·have HisC:=Lib.hid (show isCall p.plain hs f j=true from by rw[Hic.out,decide_eq_true h17,decide_eq_true hv0];rfl)
      clear Hic;subst h17;go_upto_region 8 with (fail)
      obtain ⟨w2,hw2⟩:∃w2,w2=wx.alloc (.cells #[.int .i64 17,.int .i64 a] 45):=⟨_,rfl⟩;rw[←hw2];have hM2:GMap w2 bm w.heap.size c2 (callsP p.plain hs f j):=by rw[hw2];exact HMx.out.kept (World.grownBy_alloc _ _ none) (by simp) (by simp)
      have hB2:Only (fun k=>k=bm) w w2:=by rw[hw2];exact HBx.out.alloc _
      have y42:w2.cell? ⟨bw,4,none⟩=some (.map (some bm)):=(HW.out.only hB2 (by omega)).cell 4
      have wl2:=(HW.out.only hB2 (by omega)).lt
      obtain ⟨A,cA,hlk,hown,hAl,hback⟩:=hM2.look (f:=f) (by unfold maxLen;omega) (by omega)
      have hbm2:bm<w2.heap.size∧w.heap.size≤w2.heap.size:=by have:=hB2.size;have:=HmL.out;omega
      obtain ⟨m,hm⟩:∃m,m=(callsP p.plain hs f j f).length:=⟨_,rfl⟩;rw[←hm] at hlk hown hAl hback;have Hlk:=Lib.hid hlk;have Hown:=Lib.hid hown;have Hback:=Lib.hid hback;have Hm:=Lib.hid hm;have HB2:=Lib.hid hB2;clear hM2 hB2 hlk hown hback hm hw2 s0 s1 hb1 x0 xl y3 y4 wl hh1 hh2 hh3 hh4;obtain ⟨SC,hSCd⟩:∃S:World→Prop,S=fun w'=>(w'.cell? ⟨bw,4,none⟩=some (.map (some bm))∧bw<w'.heap.size)∧w'.heap[bm]?=w2.heap[bm]?:=⟨_,rfl⟩;have hSC:SC w2.drew:=by rw[hSCd];exact ⟨⟨y42,wl2⟩,rfl⟩
      have HSC:=Lib.hid (show SC w2.drew from hSC)
      have HSd:=Lib.hid hSCd;clear hSC hSCd;refine region_heldT 14 SC (by kernel_rfl) (by decide) ?_
      refine hwK 0 (.pointer (some ⟨bw,0,none⟩)) HSC.out ?_;simp only[Act.put,List.setIfInBounds_toArray];refine hwK 1 (.pointer (some ⟨bw,0,none⟩)) HSC.out ?_;simp only[Act.put];refine hwK 2 (.pointer (some ⟨bw,4,none⟩)) HSC.out ?_;simp only[Act.put];refine hwK 3 (.map (some bm)) HSC.out ?_;simp only[Act.put];refine hwK 4 (.int .i64 (f:Int)) HSC.out ?_;simp only[Act.put];refine hwK 5 (.pointer (some ⟨bw,0,none⟩)) HSC.out ?_;simp only[Act.put];refine hwK 6 (.pointer (some ⟨bw,0,none⟩)) HSC.out ?_;simp only[Act.put];refine hwK 7 (.pointer (some ⟨bw,4,none⟩)) HSC.out ?_;simp only[Act.put];refine hwK 8 (.map (some bm)) HSC.out ?_;simp only[Act.put];refine hwK 9 (.int .i64 (f:Int)) HSC.out ?_;simp only[Act.put];refine hwK 11 (.int .i64 (j:Int)) HSC.out ?_;simp only[Act.put];refine hwK 10 (.slice A m cA) HSC.out ?_ (hy:=by intro w hSw;rw[HSd.out] at hSw;obtain ⟨⟨e0,l0⟩,e1⟩:=hSw;have hlk:=Hlk.out w e1;go_simp)
      simp only[Act.put]
      have hSC3:SC (w2.drew.alloc (.cells #[.int .i64 (j:Int)] 3)):=by
       rw[HSd.out];have hb:Below w2.heap.size w2 (w2.drew.alloc (.cells #[.int .i64 (j:Int)] 3)):=(Below.refl _ w2).drew.alloc (Nat.le_refl _) _;obtain ⟨hc,-⟩:=bcell hb;have hz:=hb.size;exact ⟨⟨(hc _ _ wl2).trans y42,by omega⟩,hb.block bm (by omega)⟩
      refine hwO 12 fun K hK=>?_;go_simp;refine hK.out _ _ hSC3 (fun hHeld=>?_);clear hK K hHeld;obtain ⟨w3,hw3⟩:∃w3,w3=(w2.alloc (.cells #[.int .i64 (j:Int)] 3)).drew:=⟨_,rfl⟩;rw[←hw3];have hb23:Below w2.heap.size w2 w3:=by rw[hw3];exact ((Below.refl _ w2).alloc (Nat.le_refl _) _).drew
      have hU3:RV w3 (some ⟨w2.heap.size,0,none⟩) [.int .i64 (j:Int)]:=by rw[hw3];exact RV.of_blk (Blk.new w2 3 #[.int .i64 (j:Int)])
      have hown3:=Own.below Hown.out hb23 (Nat.le_refl _);refine hwO 13 fun K hK=>?_;refine wp_app (.tmp 69) (.tmp 71) eInt rfl rfl hown3 (m:=1) (c':=1) (us:=[.int .i64 (j:Int)]) rfl hU3 rfl (by intro v hv;simp only[List.mem_cons,List.not_mem_nil,or_false] at hv;subst hv;rfl) (by unfold maxLen;omega) (by omega) (by have:=hb23.size;omega) (by intro h;cases h) ?_
      intro A4 c4 w4 hown4 hg4 hA4
      have hSC4:SC w4:=by
       have h3:SC w3:=by rw[hw3];exact hSC3
       rw[HSd.out] at h3;rw[HSd.out];obtain ⟨⟨e0,l0⟩,e1⟩:=h3;have hO:Only (fun k=>A.map (·.block)=some k) w3 w4:=Only.of_grown hg4 fun k e=>e;have hrow:=Own.row Hown.out;have hz:=hO.size;have hbwl:=HW.out.lt;have hbml:=HmL.out;exact ⟨⟨(hO.cell (p:=⟨bw,4,none⟩) l0 (fun e=>by have:=(hrow bw e).1;omega)).trans e0,by omega⟩,(hO.block bm (by have:=hb23.size;omega) (fun e=>by have:=(hrow _ e).1;omega)).trans e1⟩
      refine hK.out _ _ hSC4 (fun hHeld=>?_);clear hK K hHeld;refine fun _=>⟨by kernel_rfl,?_⟩
      simp only[List.drop_succ_cons,List.drop_zero];clear HSC HSd hSC3 hSC4;clear SC
      have hown4':OwnI w4 w.heap.size A4 (m+1) c4 (callsP p.plain hs f j f++[(j:Int)]):=by
       unfold OwnI;rw[List.map_append];exact hown4
      have hz3:w2.heap.size≤w3.heap.size:=hb23.size;have hg24:w2.grownBy w4 (A.map (·.block)):=(World.grownBy.mk hb23.os hb23.tape hb23.output hb23.size (fun i hi _=>hb23.block i hi)).trans hg4;obtain ⟨w5,hup,hM5,hg5⟩:=Hback.out w4 A4 c4 (j:Int) hg24 hown4' (by omega) (hA4.elim .inl fun e=> .inr ⟨_,e,hz3⟩)
      rw[callsP_yes HisC.out] at hM5
      have hO5:Only (fun k=>k=bm) w w5:=by
       refine (HB2.out.more (T:=fun k=>A.map (·.block)=some k) (Only.of_grown hg24 fun k e=>e) fun k hk e=>?_).trans (Only.of_grown hg5 fun k e=>by injection e with e;exact e.symm)
       have:=(Own.row Hown.out k e).1;omega
      have HM5:=Lib.hid hM5;have HO5:=Lib.hid hO5;clear hM5 hO5 hg5 hg24 hown4' hown4 hg4 hA4 hown3 hU3 hb23 hw3 hz3;go_wp2_with fail
      refine ⟨⟨j+1,c2+1,by omega,rfl,by omega,HM5.out,HO5.out⟩,?_⟩
      simp[intOf];omega
     have HisC:=Lib.hid (show isCall p.plain hs f j=false from by rw[Hic.out,decide_eq_false hv0,Bool.and_false])
     clear Hic;subst h17;go_wp2_with fail
     refine ⟨⟨j+1,c2,by omega,rfl,by omega,by rw[←callsP_no HisC.out];exact HMx.out.kept (World.grownBy_alloc _ _ none) (by simp) (by simp),HBx.out.alloc _⟩,?_⟩
     simp[intOf];omega
    have HisC:=Lib.hid (show isCall p.plain hs f j=false from by rw[Hic.out,decide_eq_false h17];rfl)
    clear Hic;go_wp2_with fail
    refine ⟨⟨j+1,c2,by omega,rfl,by omega,by rw[←callsP_no HisC.out];exact HMx.out.kept (World.grownBy_alloc _ _ none) (by simp) (by simp),HBx.out.alloc _⟩,?_⟩
    simp[intOf];omega
   obtain rfl:j=N:=by omega
   go_wp2_with fail
   refine ⟨⟨f+1,c2,by omega,rfl,by omega,by rw[←callsP_row,Hlen.out];exact HMx.out,HBx.out⟩,?_⟩
   simp[intOf];omega
  obtain rfl:f=n:=by omega
  have HCal:=Lib.hid (show CallsAt bm wr.heap.size wr bm (callsI p.plain hs) from by
   have h:=hMr.calls (by unfold maxLen;omega) HmL.out (Nat.lt_of_lt_of_le HmL.out hB.size)
   rw[show callsP p.plain hs f 0=callsI p.plain hs from by
    funext g
    by_cases e:g<f
    ·exact callsP_end e
    unfold callsP callsI callsN
    rw[if_neg e,show p.plain.len g=0 from by
     unfold Prg.len;rw[Int.toNat_natCast,List.getElem?_eq_none (by simp only[PrgM.plain,List.length_map,Hn.out];omega)]
     rfl]
    split<;>rfl] at h
   exact h)
  have y3:wr.cell? ⟨bw,3,none⟩=some (.pointer (some ⟨bx,0,none⟩)):=(HW.out.only hB (by omega)).cell 3
  have wlr:=(HW.out.only hB (by omega)).lt
  have xlr:=(HX.out.only hB (by omega)).lt
  have x3:wr.cell? ⟨bx,3,none⟩=some (.slice none 0 0):=(HX.out.only hB (by omega)).cell 3
  have xf:=(HX.out.only hB (by omega)).frozen 3
  have hmkB:=run_bools f (by omega)
  clear hMr hB y2 wl;go_upto_region 11 with (fail)
  obtain ⟨SC,hSCd⟩:∃S:World→Prop,S=fun w'=>(w'.cell? ⟨bw,3,none⟩=some (.pointer (some ⟨bx,0,none⟩))∧bw<w'.heap.size)∧bx<w'.heap.size:=⟨_,rfl⟩;have hSC:SC wr.drew:=by rw[hSCd];exact ⟨⟨y3,wlr⟩,xlr⟩
  have HSC:=Lib.hid (show SC wr.drew from hSC)
  have HSd:=Lib.hid hSCd;clear hSC hSCd;refine region_heldT 9 SC (by kernel_rfl) (by decide) ?_
  refine hwA 0 (.pointer (some ⟨bw,0,none⟩)) HSC.out ?_;simp only[Act.put,List.setIfInBounds_toArray];refine hwA 1 (.pointer (some ⟨bw,0,none⟩)) HSC.out ?_;simp only[Act.put];refine hwA 2 (.pointer (some ⟨bw,3,none⟩)) HSC.out ?_;simp only[Act.put];refine hwA 3 (.pointer (some ⟨bx,0,none⟩)) HSC.out ?_;simp only[Act.put];refine hwA 4 (.int .i64 (f:Int)) HSC.out ?_;simp only[Act.put]
  have hSC1:SC (wr.drew.alloc (.cells (Array.replicate f (bo false)) 4)):=by
   rw[HSd.out];have hb:Below wr.heap.size wr (wr.drew.alloc (.cells (Array.replicate f (bo false)) 4)):=(Below.refl _ wr).drew.alloc (Nat.le_refl _) _;have hz:=hb.size;exact ⟨⟨((bcell hb).1 _ _ wlr).trans y3,by omega⟩,by omega⟩
  refine hwO 5 fun K hK=>?_;go_simp;refine hK.out _ _ hSC1 (fun hHeld=>?_);clear hK K hHeld;refine hwA 6 (.pointer (some ⟨bx,0,none⟩)) hSC1 ?_;simp only[Act.put,List.setIfInBounds_toArray];refine hwA 7 (.pointer (some ⟨bx,3,none⟩)) hSC1 ?_;simp only[Act.put];obtain ⟨gL,hgL⟩:∃g,g=wr.heap.size:=⟨_,rfl⟩;obtain ⟨w1,hw1⟩:∃w1,w1=(wr.alloc (.cells (Array.replicate f (bo false)) 4)).drew:=⟨_,rfl⟩;rw[←hw1, ←hgL];have hb1:Below wr.heap.size wr w1:=by rw[hw1];exact ((Below.refl _ wr).alloc (Nat.le_refl _) _).drew
  have hX1:=(HX.out.only HB.out (by omega)).below hb1 xlr
  have hW1:=(HW.out.only HB.out (by omega)).below hb1 wlr
  have hgB:Blk w1 gL 4 ((List.replicate f false).map bo).toArray:=by rw[hw1,hgL,show ((List.replicate f false).map bo).toArray=Array.replicate f (bo false) by simp];exact Blk.new _ _ _
  have x31:w1.cell? ⟨bx,3,none⟩=some (.slice none 0 0):=hX1.cell 3;have xf1:w1.frozen? ⟨bx,3,none⟩=false:=hX1.frozen 3;have xl1:=hX1.lt
  have hSC2:SC (w1.setCell ⟨bx,3,none⟩ (.slice (some ⟨gL,0,none⟩) f f)):=by
   rw[HSd.out];have h:=hSC1;have e:SC w1:=by rw[hw1];exact h
   rw[HSd.out] at e;obtain ⟨⟨e0,l0⟩,l1⟩:=e;have hne:bw≠bx:=by omega
   refine ⟨⟨?_,by simpa [World.setCell] using l0⟩,by simpa [World.setCell] using l1⟩
   exact ((Only.refl (fun k=>k=bx) w1).setCell (p:=⟨bx,3,none⟩) (.inl rfl) _ |>.cell (p:=⟨bw,3,none⟩) l0 hne).trans e0
  have HX1:=Lib.hid hX1;have HW1:=Lib.hid hW1;have HgB:=Lib.hid hgB;have Hb1:=Lib.hid hb1;have Hw1:=Lib.hid hw1;have HgL:=Lib.hid hgL;clear hX1 hW1 hgB hb1 hw1 hgL;refine hwO 8 fun K hK=>?_;go_simp;refine hK.out _ _ hSC2 (fun hHeld=>?_);clear hK K hHeld;refine fun _=>⟨by kernel_rfl,?_⟩
  simp only[List.drop_succ_cons,List.drop_zero];obtain ⟨w2,hw2⟩:∃w2,w2=w1.setCell ⟨bx,3,none⟩ (.slice (some ⟨gL,0,none⟩) f f):=⟨_,rfl⟩;rw[←hw2];have hX2:Blk w2 bx 32 #[.slice AH f cH,.slice AT f cT,.slice AL f cL,.slice (some ⟨gL,0,none⟩) f f,.int .i64 0,.int .i64 0]:=by rw[hw2];exact Blk.setL (cs:=[.slice AH f cH,.slice AT f cT,.slice AL f cL,.slice none 0 0,.int .i64 0,.int .i64 0]) HX1.out 3 _
  have hO12:Only (fun k=>k=bx) w1 w2:=by rw[hw2];exact (Only.refl (fun k=>k=bx) w1).setCell (p:=⟨bx,3,none⟩) (.inl rfl) _
  have hO2:Only (fun k=>k=bx∨k=bm) w w2:=((HB.out.mono fun k _ e=> .inr e).trans (Only.of_fresh Hb1.out)).trans (hO12.mono fun k _ e=> .inl e);have hgLz:gL<w1.heap.size:=HgB.out.lt;have hL2:OwnL w2 0 (some ⟨gL,0,none⟩) f f (List.replicate f false):=Own.only (OwnL.of_blk HgB.out (by simp) (by omega)) hO12 (fun b _ e=>by injection e with e;injection e with e;have:=HgL.out;omega)
  have hz2:=hO12.size;have hwz:w.heap.size≤wr.heap.size:=HB.out.size
  have hSep:WSep w0 bw bx bm wr.heap.size gL:=by
   have:=HgL.out;have:=Hb0.out.size;exact ⟨by omega,by omega,by omega,fun k _ h2=>by omega⟩
  have hC2:WhC w0 w2 p hs bw bx bm bm wr.heap.size:=⟨Hp0.out,Hb0.out.trans (hO2.below (B:=w0.heap.size) Hb0.out.size fun k hk e=>by omega),HCal.out.same (fun g h1 h2=>(hO12.block g (by have:=Hb1.out.size;omega) (by omega)).trans (Hb1.out.block g h2)) (by have:=Hb1.out.size;omega),HW1.out.only hO12 (by omega)⟩
  have HLv:=Lib.hid (live_any hg Hn.out hSep (f+1) 0 (List.replicate f false) w2 (by unfold falses;have:=List.countP_le_length (p:=fun x=> !x) (l:=List.replicate f false);rw[List.length_replicate] at this;omega) (by omega) (by simp) hC2 hX2 hL2)
  have HSep:=Lib.hid hSep;have HC2:=Lib.hid hC2;have HX2:=Lib.hid hX2;have HO2:=Lib.hid hO2;have Hwz:=Lib.hid (show wr.heap.size≤gL∧gL<w2.heap.size∧w.heap.size≤wr.heap.size∧wr.heap.size≤w2.heap.size from ⟨by have:=HgL.out;omega,by omega,hwz,by have:=Hb1.out.size;omega⟩)
  clear HSC HSd hSC1 hSC2 hO12 hO2 hgLz hL2 hz2 hwz hSep hC2 hX2 hw2 x31 xf1 xl1 x3 xf xlr wlr y3 hmkB HX1 HW1 HgB Hb1 Hw1 HCal;clear SC w1;go_wp2_with fail
  refine HLv.out.mono ?_;rintro e w3 ⟨rfl,live,hlv,hL3,hO3⟩;have Hlv:=Lib.hid (show ∀v:Nat,live[v]?=some true↔Reach (cg p.plain hs) 0 v from hlv.all)
  have hll:live.length=f:=by rw[hlv.len,List.length_replicate]
  have hX3:=HX2.out.only hO3 (fun e=>HSep.out.x e.symm);have hC3:=HC2.out.one HSep.out hO3;have hO03:Only (fun k=>k=bx∨k=bm) w w3:=HO2.out.more hO3 fun k hk e=>by have:=Hwz.out;omega
  have y3:w3.cell? ⟨bw,3,none⟩=some (.pointer (some ⟨bx,0,none⟩)):=hC3.blkW.cell 3;have x4:w3.cell? ⟨bx,4,none⟩=some (.int .i64 0):=hX3.cell 4;have x5:w3.cell? ⟨bx,5,none⟩=some (.int .i64 0):=hX3.cell 5;have xf4:=hX3.frozen 4;have xf5:=hX3.frozen 5;have wl3:=hC3.blkW.lt;have xl3:=hX3.lt;have hne: ¬ bw=bx:=by omega
  have hne2: ¬ bx=bw:=by omega
  have HX3:=Lib.hid hX3;have HC3:=Lib.hid hC3;have HO03:=Lib.hid hO03;have HL3:=Lib.hid hL3;have Hz3:=Lib.hid hO3.size;have Hll:=Lib.hid hll;clear hlv hL3 hO3 hX3 hC3 hO03 hll HLv HC2 HX2 HO2;go_upto_region 13 with (fail)
  obtain ⟨SC,hSCd⟩:∃S:World→Prop,S=fun w'=>(w'.cell? ⟨bw,3,none⟩=some (.pointer (some ⟨bx,0,none⟩))∧bw<w'.heap.size)∧bx<w'.heap.size:=⟨_,rfl⟩;have hSC:SC w3.drew:=by rw[hSCd];exact ⟨⟨y3,wl3⟩,xl3⟩
  have HSC:=Lib.hid (show SC w3.drew from hSC)
  have HSd:=Lib.hid hSCd;clear hSC hSCd;refine region_heldT 14 SC (by kernel_rfl) (by decide) ?_
  refine hwA 0 (.pointer (some ⟨bw,0,none⟩)) HSC.out ?_;simp only[Act.put,List.setIfInBounds_toArray];refine hwA 1 (.pointer (some ⟨bw,0,none⟩)) HSC.out ?_;simp only[Act.put];refine hwA 2 (.pointer (some ⟨bw,3,none⟩)) HSC.out ?_;simp only[Act.put];refine hwA 3 (.pointer (some ⟨bx,0,none⟩)) HSC.out ?_;simp only[Act.put];refine hwA 4 (.pointer (some ⟨bw,0,none⟩)) HSC.out ?_;simp only[Act.put];refine hwA 5 (.pointer (some ⟨bw,0,none⟩)) HSC.out ?_;simp only[Act.put];refine hwA 6 (.pointer (some ⟨bw,3,none⟩)) HSC.out ?_;simp only[Act.put];refine hwA 7 (.pointer (some ⟨bx,0,none⟩)) HSC.out ?_;simp only[Act.put];refine hwA 8 (.pointer (some ⟨bx,0,none⟩)) HSC.out ?_;simp only[Act.put];refine hwA 9 (.pointer (some ⟨bx,4,none⟩)) HSC.out ?_;simp only[Act.put];have hO4:Only (fun k=>k=bx) w3 (w3.drew.setCell ⟨bx,4,none⟩ (.int .i64 (-1))):=(Only.refl (fun k=>k=bx) w3).drew.setCell (p:=⟨bx,4,none⟩) (.inl rfl) _
  have hSC4:SC (w3.drew.setCell ⟨bx,4,none⟩ (.int .i64 (-1))):=by
   rw[HSd.out];have:=hO4.size;exact ⟨⟨(hO4.cell (p:=⟨bw,3,none⟩) wl3 hne).trans y3,by omega⟩,by omega⟩
  have hO5:Only (fun k=>k=bx) w3 ((w3.drew.setCell ⟨bx,4,none⟩ (.int .i64 (-1))).setCell ⟨bx,5,none⟩ (.int .i64 (-1))):=hO4.setCell (p:=⟨bx,5,none⟩) (.inl rfl) _
  have hSC5:SC ((w3.drew.setCell ⟨bx,4,none⟩ (.int .i64 (-1))).setCell ⟨bx,5,none⟩ (.int .i64 (-1))):=by
   rw[HSd.out];have:=hO5.size;exact ⟨⟨(hO5.cell (p:=⟨bw,3,none⟩) wl3 hne).trans y3,by omega⟩,by omega⟩
  refine hwO 10 fun K hK=>?_;go_simp;refine hK.out _ _ hSC4 (fun hHeld=>?_);clear hK K hHeld;refine hwA 11 (.pointer (some ⟨bx,0,none⟩)) hSC4 ?_;simp only[Act.put,List.setIfInBounds_toArray];refine hwA 12 (.pointer (some ⟨bx,5,none⟩)) hSC4 ?_;simp only[Act.put];refine hwO 13 fun K hK=>?_;go_simp;refine hK.out _ _ hSC5 (fun hHeld=>?_);clear hK K hHeld;refine fun _=>⟨by kernel_rfl,?_⟩
  simp only[List.drop_succ_cons,List.drop_zero];clear HSC HSd hSC4 hSC5;clear SC;obtain ⟨w4,hw4⟩:∃w4,w4=((w3.setCell ⟨bx,4,none⟩ (.int .i64 (-1))).setCell ⟨bx,5,none⟩ (.int .i64 (-1))).drew:=⟨_,rfl⟩;rw[←hw4];replace hO5:Only (fun k=>k=bx) w3 w4:=by rw[hw4];exact hO5
  have hX4:Blk w4 bx 32 #[.slice AH f cH,.slice AT f cT,.slice AL f cL,.slice (some ⟨gL,0,none⟩) f f,.int .i64 (-1),.int .i64 (-1)]:=by
   rw[hw4];exact Blk.setL (cs:=[.slice AH f cH,.slice AT f cT,.slice AL f cL,.slice (some ⟨gL,0,none⟩) f f,.int .i64 (-1),.int .i64 0]) (Blk.setL (cs:=[.slice AH f cH,.slice AT f cT,.slice AL f cL,.slice (some ⟨gL,0,none⟩) f f,.int .i64 0,.int .i64 0]) (w:=w3.drew) HX3.out 4 _) 5 _
  have hC4:WhC w0 w4 p hs bw bx bm bm wr.heap.size:=HC3.out.only hO5 (fun k e=>by omega) (fun k h1 h2 e=>by omega) (by omega)
  have hO04:Only (fun k=>k=bx∨k=bm) w w4:=HO03.out.trans (hO5.mono fun k _ e=> .inl e);have hL4:OwnL w4 0 (some ⟨gL,0,none⟩) f f live:=Own.only HL3.out hO5 (fun b _ e=>by injection e with e;injection e with e;have:=Hwz.out;have:=HsB.out;omega)
  have hz4:=hO5.size;have hmkI:=run_ints f (by omega)
  have HX4:=Lib.hid hX4;have HC4:=Lib.hid hC4;have HO04:=Lib.hid hO04;have HL4:=Lib.hid hL4;have Hz4:=Lib.hid (show gL<w4.heap.size∧wr.heap.size≤w4.heap.size from by have:=Hwz.out;have:=Hz3.out;omega)
  clear hX4 hC4 hO04 hL4 hz4 hO4 hO5 hw4 HX3 HC3 HO03 HL3 y3 x4 x5 xf4 xf5 wl3 xl3 hne hne2;go_wp2_with fail
  obtain ⟨gU,hgU⟩:∃g,g=w4.heap.size:=⟨_,rfl⟩;obtain ⟨w5,hw5⟩:∃w5,w5=w4.alloc (.cells (Array.replicate f (iv 0)) 3):=⟨_,rfl⟩;rw[←hw5, ←hgU];have hb45:Below w4.heap.size w4 w5:=by rw[hw5];exact (Below.refl _ w4).alloc (Nat.le_refl _) _
  have hU5:OwnI w5 0 (some ⟨gU,0,none⟩) f f (List.replicate f 0):=OwnI.of_blk (by rw[hw5,hgU,show ((List.replicate f (0:Int)).map iv).toArray=Array.replicate f (iv 0) by simp];exact Blk.new _ _ _) (by simp) (by omega)
  have hO45:Only (fun _=>False) w4 w5:=Only.of_fresh hb45;have hC5:=HC4.out.only hO45 (fun _ h=>h.elim) (fun _ _ _ h=>h) (fun h=>h);have hX5:=HX4.out.only hO45 (fun h=>h);have hL5:=Own.only HL4.out hO45 (fun _ _ _ h=>h);have hO05:Only (fun k=>k=bx∨k=bm) w w5:=HO04.out.trans (Only.of_fresh hb45);have hz5:=hb45.size
  have hSepU:WSep w0 bw bx bm wr.heap.size gU:=by
   have h1:=Hwz.out;have h2:=Hz4.out;have h3:=Hb0.out.size;have h4:=HsB.out;exact ⟨by omega,by omega,by omega,fun k _ h2=>by omega⟩
  have HSepU:=Lib.hid hSepU;have HC5:=Lib.hid hC5;have HX5:=Lib.hid hX5;have HL5:=Lib.hid hL5;have HO05:=Lib.hid hO05;have HU5:=Lib.hid hU5
  have Hz5:=Lib.hid (show gU<w5.heap.size∧gL<gU∧wr.heap.size≤gU∧w.heap.size≤gU from by
   have h1:=Hwz.out;have h2:=Hz4.out;have h3:=(OwnI.of_blk (n:=f) (xs:=List.replicate f 0) (w:=w5) (g:=gU) (by rw[hw5,hgU,show ((List.replicate f (0:Int)).map iv).toArray=Array.replicate f (iv 0) by simp];exact Blk.new _ _ _) (by simp) (by omega))
   have h4:=(Own.row h3 gU rfl).2;omega)
  clear hb45 hU5 hO45 hC5 hX5 hL5 hO05 hz5 hSepU hgU hw5 HC4 HX4 HL4 HO04 hmkI;go_loopw [100] (fun i wz=>∃(j:Nat) (u:List Int),j≤f∧i= .int .i64 (j:Int)∧u.length=f∧AgI (cg p.plain hs) u∧Hid (∀v:Nat,u[v]?≠some 1)∧Hid (∀g:Nat,g<j→live[g]?=some true→u[g]?=some 2)∧OwnI wz 0 (some ⟨gU,0,none⟩) f f u∧Only (fun k=>k=gU) w5 wz) (fun i _=>f-(intOf i).toNat)
  case atStart=>exact ⟨0,List.replicate f 0,Nat.zero_le _,rfl,by simp,AgI.start _,Lib.hid (fun v e=>by have:=List.eq_of_mem_replicate (List.mem_of_getElem? e);omega),Lib.hid (fun g h=>by omega),HU5.out,Only.refl _ _⟩
  rename World=>wz;obtain ⟨j,u,hj,rfl,hul,hAI,HNo,HTwo,hU,hBz⟩:=hrel;have hCz:=HC5.out.one HSepU.out hBz;have hXz:=HX5.out.only hBz (fun e=>HSepU.out.x e.symm);have hLz:=Own.only HL5.out hBz (fun b _ e=>by injection e with e;injection e with e;have:=Hz5.out;have:=HsB.out;omega)
  have hOz:Only (fun k=>k=bx∨k=bm) w wz:=HO05.out.more hBz fun k hk e=>by have:=Hz5.out;omega
  have HAI:=Lib.hid hAI;have HU:=Lib.hid hU;have HBz:=Lib.hid hBz;have HCz:=Lib.hid hCz;have HXz:=Lib.hid hXz;have HLz:=Lib.hid hLz;have HOz:=Lib.hid hOz;have y3:wz.cell? ⟨bw,3,none⟩=some (.pointer (some ⟨bx,0,none⟩)):=hCz.blkW.cell 3;have wlz:=hCz.blkW.lt;have xlz:=hXz.lt;have x3:wz.cell? ⟨bx,3,none⟩=some (.slice (some ⟨gL,0,none⟩) f f):=hXz.cell 3;by_cases hlt3:j<f
  ·have g2:(j:Int)<(f:Int):=by omega
   have hjl:j<live.length:=by rw[Hll.out];exact hlt3
   have l0:=OwnL.at_ hLz j hjl;obtain ⟨lf,ll⟩:=OwnL.room hLz j hjl;obtain ⟨v,hv⟩:∃v,v=live[j]:=⟨_,rfl⟩;rw[←hv] at l0;have Hv:=Lib.hid (show live[j]?=some v from by rw[hv];exact List.getElem?_eq_getElem hjl)
   clear hv hAI hU hBz hCz hXz hLz hOz;cases v with
   |true=>
    have HK:=Lib.hid (again_any (hs:=hs) hg Hn.out HSepU.out (u.countP (·=0)+1) j u wz (by omega) hlt3 hul HAI.out (fun v e=>absurd e (HNo.out v)) HCz.out HU.out)
    have hNT:=HTwo;go_wp2_with fail
    refine HK.out.mono ?_;rintro e w6 ⟨hO6,⟨rfl,b2,hP6,hU6⟩|⟨rfl,v,hR6,hc6⟩⟩
    ·have HP6:=Lib.hid hP6;have HU6:=Lib.hid hU6;have HO6:=Lib.hid hO6;clear hP6 hU6 hO6;go_wp2_with fail
     refine ⟨⟨j+1,b2,by omega,rfl,HP6.out.len.trans hul,HP6.out.inv,Lib.hid (fun v e=>HNo.out v ((HP6.out.one v).1 e)),Lib.hid (fun g h1 h2=>?_),HU6.out,HBz.out.trans HO6.out⟩,?_⟩
     ·by_cases e:g=j
      ·subst e;exact HP6.out.self
      exact HP6.out.mono g (HTwo.out g (by omega) h2)
     simp[intOf];omega
    have HR6:=Lib.hid hR6;have Hc6:=Lib.hid hc6;have HO6:=Lib.hid hO6;clear hR6 hc6 hO6;go_wp2_with fail
    have hna: ¬ Acyc p.plain hs:=fun h=>h v (((Hlv.out j).1 Hv.out).trans HR6.out) Hc6.out;refine bodyPost_ret (v:=.tuple #[]) (results_none rfl _ _ _) rfl ⟨rfl,gL,-1,-1,live,HXz.out.only HO6.out (fun e=>HSepU.out.x e.symm),Own.only HLz.out HO6.out (fun b _ e=>by injection e with e;injection e with e;have:=Hz5.out;have:=HsB.out;omega),Hll.out,Hlv.out,by have:=Hwz.out;omega,.inl ⟨hna,rfl⟩,.inl ⟨fun h=>hna h.1,rfl⟩,HOz.out.more HO6.out fun k hk e=>by have:=Hz5.out;omega⟩
   |false=>
    go_wp2_with fail
    refine ⟨⟨j+1,u,by omega,rfl,hul,HAI.out,HNo,Lib.hid (fun g h1 h2=>?_),HU.out,HBz.out⟩,?_⟩
    ·by_cases e:g=j
     ·subst e;rw[Hv.out] at h2;cases h2
     exact HTwo.out g (by omega) h2
    simp[intOf];omega
  obtain rfl:j=f:=by omega
  have Hac:=Lib.hid (show Acyc p.plain hs from fun v hv=>by
   have hvl:=reach_lt hg hv;refine (HAI.out.two v (HTwo.out v ?_ ((Hlv.out v).2 hv))).2;rw[←Hn.out];simpa [PrgM.plain] using hvl)
  clear hAI hU hBz hCz hXz hLz hOz HNo HTwo HAI HU HC5 HX5 HL5 HO05 HU5 HBz;go_upto_region 21 with (fail)
  obtain ⟨c,hc⟩:=cells_exist hg tops Hac.out;obtain ⟨bk,hbk⟩:∃g,g=wz.heap.size:=⟨_,rfl⟩;obtain ⟨w6,hw6⟩:∃w6,w6=wz.alloc (.map #[] 0):=⟨_,rfl⟩;rw[←hw6, ←hbk];have hb6:Below wz.heap.size wz w6:=by rw[hw6];exact (Below.refl _ wz).alloc (Nat.le_refl _) _
  have hM6:KMap w6 bk (List.replicate j false) c:=by rw[hw6,hbk];exact KMap.made wz j c
  have hO6:Only (fun _=>False) wz w6:=Only.of_fresh hb6;have hbkw:bk<w6.heap.size:=hM6.lt
  have hKS:KSep w0 wz bw bx bm wr.heap.size bk:=by
   have h1:=Hwz.out;have h2:=Hz5.out;have h3:=Hb0.out.size;have h4:=HsB.out;have h5:=HOz.out.size;have h6:=(Own.row HLz.out gL rfl).2;have h7:=HCz.out.calls.size;exact ⟨⟨by omega,by omega,by omega,fun k _ h2=>by omega⟩,by omega⟩
  have hFz:=HF.out.keep HOz.out Hbm.out Hbl.out
  have hQ6:WhQ w0 wz w6 p hs tops AH AT j cH j cT (.slice AL j cL) (.slice (some ⟨gL,0,none⟩) j j) (.int .i64 (-1)) (.int .i64 (-1)) bw bx bm bm wr.heap.size:=
   ⟨HCz.out.only hO6 (fun _ h=>h.elim) (fun _ _ _ h=>h) (fun h=>h),HXz.out.only hO6 (fun h=>h),Only.of_fresh hb6⟩
  have hQ6':WhQ w0 wz w6.drew p hs tops AH AT j cH j cT (.slice AL j cL) (.slice (some ⟨gL,0,none⟩) j j) (.int .i64 (-1)) (.int .i64 (-1)) bw bx bm bm wr.heap.size:=
   ⟨hQ6.whc.only (Only.refl (fun _=>False) w6).drew (fun _ h=>h.elim) (fun _ _ _ h=>h) (fun h=>h),hQ6.blkX,hQ6.old.drew⟩
  have HK:=Lib.hid (cells_any hg Hn.out hKS rfl rfl HWF.out hFz Hac.out hc (rk (cg p.plain hs) p.plain.fs.length 0+1) 0 (List.replicate j false) w6.drew (by omega) (by omega) (.refl 0) (by simp) hQ6' (hM6.heap rfl))
  have Hc:=Lib.hid hc;have HKS:=Lib.hid hKS;have HQ6:=Lib.hid hQ6;have HO06:=Lib.hid (show Only (fun k=>k=bx∨k=bm) w w6 from HOz.out.trans (Only.of_fresh hb6))
  have HL6:=Lib.hid (Own.only HLz.out hO6 (fun _ _ _ h=>h));have y36:w6.cell? ⟨bw,3,none⟩=some (.pointer (some ⟨bx,0,none⟩)):=hQ6.whc.blkW.cell 3;have wl6:=hQ6.whc.blkW.lt;have xl6:=hQ6.blkX.lt
  have Hz6:=Lib.hid (show gL<bk∧bk<w6.heap.size∧w.heap.size≤bk from by
   have h1:=Hwz.out;have h5:=HOz.out.size;have h6:=(Own.row HLz.out gL rfl).2;omega)
  clear hc hbk hw6 hb6 hM6 hO6 hbkw hKS hFz hQ6 hQ6' y3 wlz xlz x3 HCz HXz HLz HOz;obtain ⟨SC,hSCd⟩:∃S:World→Prop,S=fun w'=>(w'.cell? ⟨bw,3,none⟩=some (.pointer (some ⟨bx,0,none⟩))∧bw<w'.heap.size)∧bx<w'.heap.size:=⟨_,rfl⟩;have hSC:SC w6.drew:=by rw[hSCd];exact ⟨⟨y36,wl6⟩,xl6⟩
  have HSC:=Lib.hid (show SC w6.drew from hSC)
  have HSd:=Lib.hid hSCd;clear hSC hSCd;refine region_heldT 10 SC (by kernel_rfl) (by decide) ?_
  refine hwA 0 (.pointer (some ⟨bw,0,none⟩)) HSC.out ?_;simp only[Act.put,List.setIfInBounds_toArray];refine hwA 1 (.pointer (some ⟨bw,0,none⟩)) HSC.out ?_;simp only[Act.put];refine hwA 2 (.pointer (some ⟨bw,3,none⟩)) HSC.out ?_;simp only[Act.put];refine hwA 3 (.pointer (some ⟨bx,0,none⟩)) HSC.out ?_;simp only[Act.put];refine hwA 4 (.pointer (some ⟨bw,0,none⟩)) HSC.out ?_;simp only[Act.put];refine hwA 5 (.map (some bk)) HSC.out ?_;simp only[Act.put];refine hwO 6 fun K hK=>?_;go_simp;refine HK.out.mono ?_;rintro e w7 ⟨rfl,K7,hP7,hM7,hO7⟩;have hO67:Only (fun k=>k=bk) w6 w7:=(Only.refl _ w6).drew.trans hO7
  have hSC7:SC w7:=by
   rw[HSd.out];have hz:=hO67.size;exact ⟨⟨(hO67.cell (p:=⟨bw,3,none⟩) wl6 (fun e=>HKS.out.sep.w e.symm)).trans y36,by omega⟩,by omega⟩
  refine hK.out _ _ hSC7 (fun hHeld=>?_);clear hK K hHeld;have hcb:=cells_small hg HWF.out Hac.out Hc.out (.refl 0);have hQ7:=HQ6.out.one HKS.out hO67;have hX7:=hQ7.blkX;have x4:w7.cell? ⟨bx,4,none⟩=some (.int .i64 (-1)):=hX7.cell 4;have xf4:=hX7.frozen 4;have xl7:=hX7.lt;have HQ7:=Lib.hid hQ7;have HO67:=Lib.hid hO67;clear hP7 hM7 hO7 hO67 hQ7 hX7;obtain ⟨ce,hce⟩:∃x,x=c 0:=⟨_,rfl⟩;rw[←hce];have HCe:=Lib.hid (show CellsIs p.plain hs tops ce from .inr ⟨Hac.out,c,Hc.out,hce⟩)
  clear hce hcb;have hO8:Only (fun k=>k=bx) w7 (w7.setCell ⟨bx,4,none⟩ (.int .i64 ce)):=(Only.refl (fun k=>k=bx) w7).setCell (p:=⟨bx,4,none⟩) (.inl rfl) _
  have hSC8:SC (w7.setCell ⟨bx,4,none⟩ (.int .i64 ce)):=by
   have h:=hSC7;rw[HSd.out] at h ⊢;obtain ⟨⟨e0,l0⟩,l1⟩:=h;have hz:=hO8.size;exact ⟨⟨(hO8.cell (p:=⟨bw,3,none⟩) l0 (fun e=>by have:=HsB.out;change bw=bx at e;omega)).trans e0,by omega⟩,by omega⟩
  have HO8:=Lib.hid hO8;clear hO8;refine hwA 7 (.pointer (some ⟨bx,0,none⟩)) hSC7 ?_;simp only[Act.put,List.setIfInBounds_toArray];refine hwA 8 (.pointer (some ⟨bx,4,none⟩)) hSC7 ?_;simp only[Act.put];refine hwO 9 fun K hK=>?_;go_simp;refine hK.out _ _ hSC8 (fun hHeld=>?_);clear hK K hHeld;refine fun _=>⟨by kernel_rfl,?_⟩
  simp only[List.drop_succ_cons,List.drop_zero];clear HSC HSd hSC7 hSC8;clear SC;obtain ⟨w8,hw8⟩:∃w8,w8=w7.setCell ⟨bx,4,none⟩ (.int .i64 ce):=⟨_,rfl⟩;have hO78:=HO8.out;rw[←hw8] at hO78 ⊢
  have hX8:Blk w8 bx 32 #[.slice AH j cH,.slice AT j cT,.slice AL j cL,.slice (some ⟨gL,0,none⟩) j j,.int .i64 ce,.int .i64 (-1)]:=by
   rw[hw8];exact Blk.setL (cs:=[.slice AH j cH,.slice AT j cT,.slice AL j cL,.slice (some ⟨gL,0,none⟩) j j,.int .i64 (-1),.int .i64 (-1)]) HQ7.out.blkX 4 _
  have hC8:WhC w0 w8 p hs bw bx bm bm wr.heap.size:=HQ7.out.whc.only hO78 (fun k e=>by have:=HsB.out;omega) (fun k h1 h2 e=>by have:=HsB.out;omega) (by have:=HsB.out;omega)
  have hO08:Only (fun k=>k=bx∨k=bm) w w8:=(HO06.out.more HO67.out fun k hk e=>by have:=Hz6.out;omega).trans (hO78.mono fun k _ e=> .inl e)
  have hL8:OwnL w8 0 (some ⟨gL,0,none⟩) j j live:=Own.only (Own.only HL6.out HO67.out (fun b _ e=>by injection e with e;injection e with e;have:=Hz6.out;omega)) hO78 (fun b _ e=>by injection e with e;injection e with e;have:=Hwz.out;have:=HsB.out;omega)
  have HX8:=Lib.hid hX8;have HC8:=Lib.hid hC8;have HO08:=Lib.hid hO08;have HL8:=Lib.hid hL8;have HLM8:=Lib.hid (show LM w8 bx lps AL j from HL.out.only hO08 fun b off e1 e2 e3=>e3.elim e2 (Hbl.out b off (.inl e1)))
  have y3:w8.cell? ⟨bw,3,none⟩=some (.pointer (some ⟨bx,0,none⟩)):=hC8.blkW.cell 3;have wl8:=hC8.blkW.lt;have xl8:=hX8.lt;have x2:w8.cell? ⟨bx,2,none⟩=some (.slice AL j cL):=hX8.cell 2;have x3:w8.cell? ⟨bx,3,none⟩=some (.slice (some ⟨gL,0,none⟩) j j):=hX8.cell 3;clear hX8 hC8 hO08 hL8 hO78 HO8 HQ7 HO67 HQ6 HO06 HL6 HKS HK x4 xf4 xl7 y36 wl6 xl6 hw8;go_wp2_with fail
  go_loopw [131] (fun i wy=>∃k:Nat,k≤j∧i= .int .i64 (k:Int)∧Hid (∀g:Nat,g<k→live[g]?=some true→(lps.getD g []).length=0)∧w8=wy) (fun i _=>j-(intOf i).toNat)
  case atStart=>exact ⟨0,Nat.zero_le _,rfl,Lib.hid (fun g h=>by omega),rfl⟩
  rename World=>wy;obtain ⟨k,hk,rfl,HE,rfl⟩:=hrel;by_cases hlt4:k<j
  ·have g2:(k:Int)<(j:Int):=by omega
   have hkl:k<live.length:=by rw[Hll.out];exact hlt4
   have l0:=OwnL.at_ HL8.out k hkl;obtain ⟨lf,ll⟩:=OwnL.room HL8.out k hkl;obtain ⟨v,hv⟩:∃v,v=live[k]:=⟨_,rfl⟩;rw[←hv] at l0;have Hv:=Lib.hid (show live[k]?=some v from by rw[hv];exact List.getElem?_eq_getElem hkl)
   obtain ⟨bl,ol,Al,cl,rfl,-,hbl1,hbl2⟩:=HLM8.out k hlt4;obtain ⟨ln,hln⟩:∃x,x=(lps.getD k []).length:=⟨_,rfl⟩;rw[←hln] at hbl2;have Hln:=Lib.hid hln;clear hv hln;cases v with
   |true=>
    by_cases h0:ln=0
    ·subst h0;go_wp2_with fail
     refine ⟨⟨k+1,by omega,rfl,Lib.hid (fun g h1 h2=>?_),trivial⟩,?_⟩
     ·by_cases e:g=k
      ·rw[e];exact Hln.out.symm
      exact HE.out g (by omega) h2
     simp[intOf];omega
    have h0':(0:Int)<(ln:Int):=by omega
    go_wp2_with fail
    have hns: ¬ Str p.plain hs:=fun h=>by
     have h1:=(Hlp.out k hlt4).2 (fun v hv=>h k ((Hlv.out k).1 Hv.out) v hv);rw[←Hln.out] at h1;omega
    refine bodyPost_ret (v:=.tuple #[]) (results_none rfl _ _ _) rfl ⟨rfl,gL,ce,-1,live,HX8.out,HL8.out,Hll.out,Hlv.out,by have:=Hwz.out;omega,HCe.out,.inl ⟨fun h=>hns h.2,rfl⟩,HO08.out⟩
   |false=>
    go_wp2_with fail
    refine ⟨⟨k+1,by omega,rfl,Lib.hid (fun g h1 h2=>?_),trivial⟩,?_⟩
    ·by_cases e:g=k
     ·rw[e,Hv.out] at h2;cases h2
     exact HE.out g (by omega) h2
    simp[intOf];omega
  obtain rfl:k=j:=by omega
  have Hst:=Lib.hid (show Str p.plain hs from fun f hf=>by
   have hfl:=reach_lt hg hf;have hfk:f<k:=by rw[←Hn.out];simpa [PrgM.plain] using hfl
   exact (Hlp.out f hfk).1 (HE.out f hfk ((Hlv.out f).2 hf)))
  obtain ⟨bk2,hbk2⟩:∃g,g=w8.heap.size:=⟨_,rfl⟩;obtain ⟨w9,hw9⟩:∃w9,w9=w8.alloc (.map #[] 0):=⟨_,rfl⟩;have hb9:Below w8.heap.size w8 w9:=by rw[hw9];exact (Below.refl _ w8).alloc (Nat.le_refl _) _
  have hM9:KMap w9 bk2 (List.replicate k false) (kcL p.plain):=by rw[hw9,hbk2];exact KMap.made w8 k _
  have hO9:Only (fun _=>False) w8 w9:=Only.of_fresh hb9
  have hQ9:CtQ w0 w9 p bw bk2 (.pointer (some ⟨bx,0,none⟩)) (.map (some bm)):=
   ⟨HC8.out.prg,HC8.out.below.trans (hO9.below (B:=w0.heap.size) HC8.out.below.size fun _ _ h=>h),HC8.out.blkW.only hO9 (fun h=>h),by have:=HsB.out;omega,by have:=HC8.out.below.size;omega,by have:=HsB.out;have:=HO08.out.size;omega⟩
  have hlenS:hs.length=p.plain.fs.length:=HWF.out.lh;have hStr:Strt p.plain hs:=⟨Hac.out,Hst.out,fun f hf=>Hfin.out f (by rw[←Hn.out];simpa [PrgM.plain] using hf),hlenS⟩
  have HK:=Lib.hid (cost_any hg Hn.out hStr (rk (cg p.plain hs) p.plain.fs.length 0+1) 0 (List.replicate k false) w9 (by omega) (by omega) (.refl 0) (by simp) hQ9 hM9)
  have HStr:=Lib.hid hStr;have HO09:=Lib.hid (show Only (fun k=>k=bx∨k=bm) w w9 from HO08.out.trans (Only.of_fresh hb9))
  have HX9:=Lib.hid (HX8.out.only hO9 (fun h=>h));have HW9:=Lib.hid hQ9.blkW;have HL9:=Lib.hid (Own.only HL8.out hO9 (fun _ _ _ h=>h))
  have Hz9:=Lib.hid (show gL<bk2∧bk2<w9.heap.size∧w.heap.size≤bk2∧bx<bk2∧bw<bk2 from by
   have h1:=Hwz.out;have h2:=HO08.out.size;have h3:=(Own.row HL8.out gL rfl).2;have h4:=hM9.lt;have h5:=HsB.out;omega)
  have Hw9:=Lib.hid hw9;have Hbk2:=Lib.hid hbk2;clear hw9 hbk2 hb9 hM9 hO9 hQ9 hlenS hStr y3 wl8 xl8 x2 x3;go_upto_region 28 with (fail)
  rw[←Hw9.out, ←Hbk2.out];clear Hw9 Hbk2 HC8 HX8 HL8 HO08 HLM8;go_wp2_with fail
  refine HK.out.mono ?_;rintro e w10 ⟨rfl,K7,hP7,hM7,hO7⟩;have hO0a:Only (fun k=>k=bx∨k=bm) w w10:=HO09.out.more hO7 fun k hk e=>by have:=Hz9.out;omega
  have HXa:=Lib.hid (HX9.out.only hO7 (fun e=>by have:=Hz9.out;omega))
  have HWa:=Lib.hid (HW9.out.only hO7 (fun e=>by have:=Hz9.out;omega))
  have HLa:=Lib.hid (Own.only HL9.out hO7 (fun b _ e=>by injection e with e;injection e with e;have:=Hz9.out;omega))
  have HO0a:=Lib.hid hO0a;have HKr:=Lib.hid (show ∀v:Nat,K7[v]?=some true→Reach (cg p.plain hs) 0 v from fun v hv=>(hP7.new v hv).elim (fun h=>by have:=List.eq_of_mem_replicate (List.mem_of_getElem? h);cases this) (fun h=>h))
  have HK0:=Lib.hid hP7.self;have HKl:=Lib.hid (show K7.length=k from by rw[hP7.len,List.length_replicate])
  obtain ⟨m,D,hKM⟩:=hM7;have hbka:bk2<w10.heap.size:=World.ownsMap.lt hKM.own;have HKM:=Lib.hid hKM;have HzA:=Lib.hid (show bk2<w10.heap.size from hbka)
  obtain ⟨cc,hcc⟩:∃x,x=kcL p.plain 0:=⟨_,rfl⟩;rw[←hcc];have Hcc:=Lib.hid hcc;have hown:=hKM.own;clear hP7 hO7 hO0a hKM hcc HK HX9 HW9 HL9 HO09 hbka
  go_wp2_with (first
   |(at_range;refine wpList_range_own _ rfl _ 119 rfl 3 3 keyedI Try.underlying119 _ bk2 m D rfl hown ?_;intro w11 hrg0 hg0 hs0)
   |fail)
  obtain ⟨r,hr⟩:∃r,r=w10.heap.size:=⟨_,rfl⟩;rw[←hr] at hrg0 ⊢;have Hr:=Lib.hid hr;have Hs0:=Lib.hid hs0;have Hg0:=Lib.hid hg0;have Hrg0:=Lib.hid hrg0;clear hr hs0 hg0 hrg0 hown;go_frame
  go_loopw [14] (fun _ wr=>∃(left:Lit→Bool) (cnt:Nat),wr.ranges Try.prog 3 (plainElem Try.prog 3) bk2 r m D left cnt∧Hid (∀z,left z=true→Maps.has D z=true)∧Hid (∀v:Nat,K7[v]?=some true→left (kl v)=false→kcL p.plain v≤1099511627776)∧Only (fun k=>k=r) w11 wr) (fun _ wr=>wr.rangeLeft bk2 r)
  case atStart=>exact ⟨_,_,Hrg0.out,Lib.hid (fun z h=>h),Lib.hid (fun v h1 h2=>by
   have hv:v<4096:=by have:=(List.getElem?_eq_some_iff.1 h1).1;have:=HKl.out;omega
   rw[(HKM.out.has hv).2 h1] at h2;cases h2),Only.refl _ _⟩
  rename World=>wr2;obtain ⟨left,cnt,hrg,HSub,HLow,hOr⟩:=hrel;have hOab:Only (fun k=>k=bx∨k=bm) w wr2:=((HO0a.out.trans (Only.of_grown Hg0.out (fun k e=>by cases e))).more hOr fun k hk e=>by have h1:=Hr.out;have h2:=HO0a.out.size;omega)
  have hOr2:Only (fun k=>k=r) w10 wr2:=(Only.of_grown Hg0.out (fun k e=>by cases e)).trans hOr
  have hXr:=HXa.out.only hOr2 (fun e=>by have:=Hr.out;have:=HXa.out.lt;omega)
  have hWr:=HWa.out.only hOr2 (fun e=>by have:=Hr.out;have:=HWa.out.lt;omega)
  have hLr:=Own.only HLa.out hOr2 (fun b _ e=>by injection e with e;injection e with e;have:=Hr.out;have:=(Own.row HLa.out gL rfl).2;omega)
  have HXr:=Lib.hid hXr;have HWr:=Lib.hid hWr;have HLr:=Lib.hid hLr;have HOab:=Lib.hid hOab;have HOr:=Lib.hid hOr;have Hrg:=Lib.hid hrg;clear hXr hWr hLr hOab hOr hOr2
  go_wp2_with (first
   |(at_next;refine wpList_next_ranges_ii _ rfl _ rfl 3 3 .i64 .i64 keyedI Try.underlying3 Try.underlying3 bk2 r m _ _ _ rfl hrg ?_ ?_)
   |fail)
  ·intro hc0 hl0;have hcc2:cc≤1099511627776:=by rw[Hcc.out];exact HLow.out 0 HK0.out (hl0 _)
   have y3:wr2.cell? ⟨bw,3,none⟩=some (.pointer (some ⟨bx,0,none⟩)):=HWr.out.cell 3;have x5:wr2.cell? ⟨bx,5,none⟩=some (.int .i64 (-1)):=HXr.out.cell 5;have xf5:=HXr.out.frozen 5;have wlr:=HWr.out.lt;have xlr:=HXr.out.lt;clear hrg hl0;go_wp2_with fail
   have hO5:Only (fun k=>k=bx) wr2 (wr2.setCell ⟨bx,5,none⟩ (.int .i64 cc)):=(Only.refl (fun k=>k=bx) wr2).setCell (p:=⟨bx,5,none⟩) (.inl rfl) _;have hX5:Blk (wr2.setCell ⟨bx,5,none⟩ (.int .i64 cc)) bx 32 #[.slice AH k cH,.slice AT k cT,.slice AL k cL,.slice (some ⟨gL,0,none⟩) k k,.int .i64 ce,.int .i64 cc]:=Blk.setL (cs:=[.slice AH k cH,.slice AT k cT,.slice AL k cL,.slice (some ⟨gL,0,none⟩) k k,.int .i64 ce,.int .i64 (-1)]) HXr.out 5 _;refine bodyPost_end (v:=.tuple #[]) (results_none rfl _ _ _) rfl ⟨rfl,gL,ce,cc,live,hX5,Own.only HLr.out hO5 (fun b _ e=>by injection e with e;injection e with e;have:=Hz9.out;have:=HsB.out;have:=Hwz.out;omega),Hll.out,Hlv.out,by have:=Hwz.out;omega,HCe.out,.inr ⟨Hac.out,Hst.out,by rw[←Hcc.out,if_pos hcc2]⟩,HOab.out.trans (hO5.mono fun k _ e=> .inl e)⟩
  intro x c2 w12 cnt1 hwx hwc hlx hat hrg1 hlt hg1 hs1 hen
  have hxr: -9223372036854775808≤x∧x≤9223372036854775807:=by
   have e1:IntKind.i64.min= -9223372036854775808:=by decide
   have e2:IntKind.i64.max=9223372036854775807:=by decide
   have h:(decide (IntKind.i64.min≤x)&&decide (x≤IntKind.i64.max))=true:=hwx;rw[e1,e2,Bool.and_eq_true,decide_eq_true_eq,decide_eq_true_eq] at h;exact h
  obtain ⟨v,hv,hKv⟩:=(HKM.out.keys x hxr).1 (HSub.out _ hlx);subst hv
  have hcv:kcL p.plain v=c2:=by
   have h:=HKM.out.vals v hKv .nil;rw[hat] at h;exact (congrArg toI h).symm
  have Hkv:=Lib.hid hKv;have Hcv:=Lib.hid hcv;have Hrg1:=Lib.hid hrg1;have Hlt:=Lib.hid hlt;have Hg1:=Lib.hid hg1;clear hrg hwx hwc hlx hat hrg1 hlt hg1 hs1 hKv hcv hxr;by_cases hbig:1099511627776<c2
  ·go_wp2_with fail
   have h0: ¬ kcL p.plain 0≤1099511627776:=by
    have h1:=kc_mono HStr.out hg (.refl 0) (HKr.out v Hkv.out);have h2:=Hcv.out;omega
   have hO12:Only (fun k=>k=r) wr2 w12:=Only.of_grown Hg1.out fun q hq=>by injection hq with hq;exact hq.symm
   refine bodyPost_ret (v:=.tuple #[]) (results_none rfl _ _ _) rfl ⟨rfl,gL,ce,-1,live,HXr.out.only hO12 (fun e=>by have:=Hr.out;have:=Hz9.out;have:=HzA.out;omega),Own.only HLr.out hO12 (fun b _ e=>by injection e with e;injection e with e;have:=Hr.out;have:=Hz9.out;have:=HzA.out;omega),Hll.out,Hlv.out,by have:=Hwz.out;omega,HCe.out,.inr ⟨Hac.out,Hst.out,by rw[if_neg h0]⟩,HOab.out.more hO12 fun k hk e=>by have:=Hr.out;have:=HO0a.out.size;omega⟩
  go_wp2_with fail
  refine ⟨⟨_,cnt1,Hrg1.out,Lib.hid (fun z h=>?_),Lib.hid (fun u h1 h2=>?_),HOr.out.trans (Only.of_grown Hg1.out fun q hq=>by injection hq with hq;exact hq.symm)⟩,?_⟩
  ·rw[Bool.and_eq_true] at h;exact HSub.out z h.1
  ·cases hl:left (kl u) with
   |false=>exact HLow.out u h1 hl
   |true=>
    rw[hl,Bool.true_and,Bool.not_eq_false'] at h2;have e:=congrArg toL (WideAt.sameKey_eq h2);have e2:(u:Int)=(v:Int):=e;have:u=v:=by omega
    rw[this,Hcv.out];omega
  rw[Hrg1.out.left_eq,Hrg.out.left_eq];exact Hlt.out
end Go.Proofs.Ytcmpmhlcfalbhaa
