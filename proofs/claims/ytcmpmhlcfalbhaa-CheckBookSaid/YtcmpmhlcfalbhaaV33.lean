import Derived.Test.YtcmpmhlcfalbhaaV11
import Derived.Test.YtcmpmhlcfalbhaaV32
namespace Go.Proofs.Ytcmpmhlcfalbhaa
open Go.RowKit
def RecPost (P:Prg) (hs:List (List Int)) (B gk gw F f:Nat) (K:List Bool) (w:World) (e:Ending) (w':World):Prop:=
 e= .returned (.int .i64 (vC P f))∧∃K',KI (cg P hs) f K K'∧DoneM w' B gk gw F K' (vC P)∧Only (fun b=>b=gk∨b=gw) w w'
structure OfOk (P:Prg) (hs:List (List Int)) (f F j:Nat) (O:List Int):Prop where
 len:O.length=F
 ok:∀(u:Nat) x,O[u]?=some x→x= -1∨x=vC P u
 done:∀u∈(cg P hs f).take j,O[u]?=some (vC P u)∧vC P u≠ -1
theorem OfOk.start (P:Prg) (hs:List (List Int)) (f F:Nat):OfOk P hs f F 0 (List.replicate F (-1)):=
 ⟨by simp,fun u x hx=> .inl (List.eq_of_mem_replicate (List.mem_of_getElem? hx)),fun u hu=>by cases hu⟩
theorem OfOk.skip {P:Prg} {hs:List (List Int)} {f F j u:Nat} {O:List Int} (H:OfOk P hs f F j O) (hu:(cg P hs f)[j]?=some u) {x:Int} (hx:O[u]?=some x) (hn:x≠ -1):OfOk P hs f F (j+1) O:=
 ⟨H.len,H.ok,fun v hv=>by
  rw[List.take_add_one,hu] at hv;rcases List.mem_append.1 hv with hv|hv
  ·exact H.done v hv
  rw[List.mem_singleton.1 hv];rcases H.ok u x hx with e|e
  ·exact absurd e hn
  rw[←e];exact ⟨hx,hn⟩⟩
theorem OfOk.put {P:Prg} {hs:List (List Int)} {f F j u:Nat} {O:List Int} (H:OfOk P hs f F j O) (hu:(cg P hs f)[j]?=some u) (hx:u<F) (hn:vC P u≠ -1):OfOk P hs f F (j+1) (O.set u (vC P u)):=by
 have hself:(O.set u (vC P u))[u]?=some (vC P u):=List.getElem?_set_self (by rw[H.len];exact hx)
 refine ⟨by rw[List.length_set];exact H.len,fun v x hv=>?_,fun v hv=>?_⟩
 ·rcases set_get hv with ⟨rfl,rfl⟩|⟨-,hv⟩
  ·exact .inr rfl
  exact H.ok v x hv
 rw[List.take_add_one,hu] at hv;rcases List.mem_append.1 hv with hv|hv
 ·by_cases e:u=v
  ·subst e;exact ⟨hself,hn⟩
  rw[List.getElem?_set_ne e];exact H.done v hv
 rw[List.mem_singleton.1 hv];exact ⟨hself,hn⟩
theorem vC_pos {P:Prg} {u:Nat} (h:vC P u≠ -1):vC P u=kcL P u∧0≤kcL P u∧kcL P u≤1099511627776:=by
 have h1:=(kcF_pos (P:=P) (P.fs.length+1) u).1;unfold vC at h ⊢;by_cases e:kcL P u≤1099511627776
 ·rw[if_pos e];exact ⟨rfl,h1,e⟩
 rw[if_neg e] at h;exact absurd rfl h
theorem vC_call {P:Prg} {hs:List (List Int)} (S:Strt P hs) (hg:Good P) {f u:Nat} (hf:Reach (cg P hs) 0 f) (hu:u∈cg P hs f) (h:vC P u= -1):vC P f= -1:=by
 have h1:=kc_mono S hg hf (.one hu);have h2:=(kcF_pos (P:=P) (P.fs.length+1) u).1;have hm:mostC=1099511627777:=rfl;refine vC_big ?_;unfold vC at h;by_cases e:kcL P u≤1099511627776
 ·rw[if_pos e] at h;change 0≤kcL P u at h2;omega
 omega
theorem good_call0 {P:Prg} (h:Good P) {f n:Nat} {i:Ins} (hi:P.ins f n=some i) (h17:i.op=17):0≤i.a:=by
 obtain ⟨g,hg,hgi⟩:=Prg.fn_of hi;obtain ⟨op,a⟩:=i;dsimp only at h17;subst h17;obtain ⟨-,hmay⟩:=good_ins h.chk (List.mem_of_getElem? hg) (List.mem_of_getElem? hgi);obtain ⟨-,-,-,k17,-⟩:=kinds_of;unfold mayB at hmay;simp only[k17] at hmay;exact (by simpa using hmay:0≤a∧_).1
def flagN:Value→Nat
 | .bool true=>1
 |_=>0
theorem own_two {w w1 w2:World} {e:TypeId} {s n c gk gw:Nat} {A:Option Addr} {vs:List Value} (h:Own w1 w.heap.size e s A n c vs) (ho:Only (fun b=>b=gk∨b=gw) w1 w2) (hk:gk<w.heap.size) (hw:gw<w.heap.size):Own w2 w.heap.size e s A n c vs:=
 Own.only h ho fun b o eb=>by
  have h1:=(Own.row h b (by rw[eb];rfl)).1
  rintro (e|e)<;>omega
set_option maxRecDepth 100000 in
set_option maxHeartbeats 8000000 in
theorem reckoned_any {p:PrgM} {hs:List (List Int)} {w0:World} {AH AT:Option Addr} {cH cT:Nat} {vL vV:Value} {ce co:Value} {gs gc gk gi gw F B:Nat} (hp:PrgAt w0 p) (hg:Good p.plain) (hF:p.fs.length=F) (hS:SumsSep w0 gs gc gk gi gw)
  (S:Strt p.plain hs) (hR:HRows w0 AH hs) (f:Nat) (K:List Bool) (w:World) (hf:f<F) (hr:Reach (cg p.plain hs) 0 f) (hQ:SumsM w0 w p F AH cH AT cT vL vV ce co gs gc gk gi gw) (hM:DoneM w B gk gw F K (vC p.plain))
  (ih:∀u∈cg p.plain hs f,∀(K:List Bool) (w:World),SumsM w0 w p F AH cH AT cT vL vV ce co gs gc gk gi gw→DoneM w B gk gw F K (vC p.plain)→Calls Try.prog 53 #[.pointer (some ⟨gs,0,none⟩),.int .i64 (u:Int)] w (CellsPost p.plain hs B gk gw F u K (vC p.plain) w)):
  Calls Try.prog 74 #[.pointer (some ⟨gs,0,none⟩),.int .i64 (f:Int)] w (RecPost p.plain hs B gk gw F f K w):=by
 have hpF:p.plain.fs.length=F:=by rw[←hF];simp[PrgM.plain]
 have hF64:F≤64:=by have:=(good_many hg.chk).2;omega
 obtain ⟨N,hN⟩:∃N,N=p.plain.len f:=⟨_,rfl⟩
 have hN4:N≤4096:=by rw[hN];exact good_len hg f
 have hN0:0<N:=by rw[hN];exact len_pos hg.chk (by omega)
 have hHF:=S.fin f (by omega)
 obtain ⟨bh,rfl,hbh,hrows⟩:=hR
 obtain ⟨R,cR,hrc0,hrv⟩:=hrows f (by rw[S.len];omega)
 have hrl:(hs.getD f []).length=N:=by rw[hHF.len,hN]
 rw[hrl] at hrc0
 obtain ⟨gg,hgf⟩:∃g,p.fs[f]?=some g:=⟨_,List.getElem?_eq_getElem (by omega)⟩
 have hcl:gg.code.length=N:=by rw[hN];exact (PrgM.len_plain hgf).symm
 obtain ⟨b0,off,hA,hb00,q00,q01,q02,q03,hFn0,-⟩:=hp.fn hgf
 obtain ⟨b1,off1,hA1,hb10,-,-,-,-⟩:=hFn0.ins (List.getElem?_eq_getElem (show 0<gg.code.length by omega))
 have q3:=((bcell hQ.bel).1 _ (off+f*4+3) hb00).trans q03
 have hb0:b0<w.heap.size:=by have:=hQ.bel.size;omega
 rw[hA1,hcl] at q3
 obtain ⟨gkc,hgkc⟩:∃m,m=gg.c:=⟨_,rfl⟩
 rw[←hgkc] at q3
 have s2:w.cell? ⟨gs,2,none⟩=some (.slice (some ⟨b0,off,none⟩) F p.cF):=by rw[←hA];exact hQ.blk.cell 2
 have sl:=hQ.blk.lt
 have gfF:(f:Int)<(F:Int):=by omega
 obtain ⟨C,hC,hK,hCl,hKl,hCK⟩:=hM.out
 have hgkl:=(Own.row hC gk rfl).2
 have hgwl:=(Own.row hK gw rfl).2
 have hmk:=run_ints N (by omega)
 obtain ⟨w1,hw1⟩:∃w',w'=w.alloc (.cells (Array.replicate N (iv 0)) 3):=⟨_,rfl⟩
 obtain ⟨go,hgo⟩:∃g,g=w.heap.size:=⟨_,rfl⟩
 have hO1:Only (fun _=>False) w w1:=by rw[hw1];exact (Only.refl _ _).alloc _
 have hI1:OwnI w1 w.heap.size (some ⟨go,0,none⟩) N N (List.replicate 0 (-1)++List.replicate (N-0) 0):=by
  rw[hw1,hgo,show Array.replicate N (iv 0)=((List.replicate N (0:Int)).map iv).toArray from by simp]
  exact OwnI.lit w N (by omega) _ (by simp)
 have HN:=Lib.hid hN
 have HHF:=Lib.hid hHF
 have Hrow:=Lib.hid (show w0.cell? ⟨bh,f,none⟩=some (.slice R N cR)∧RV w0 R ((hs.getD f []).map iv)∧(hs.getD f []).length=N∧bh<w0.heap.size from ⟨hrc0,hrv,hrl,hbh⟩)
 have Hgf:=Lib.hid hgf
 have Hcd:=Lib.hid (show gg.code.length=N∧gg.A=some ⟨b1,off1,none⟩∧p.AF=some ⟨b0,off,none⟩∧b1<w0.heap.size∧b0<w0.heap.size from ⟨hcl,hA1,hA,hb10,hb00⟩)
 have HQ:=Lib.hid hQ
 have HM:=Lib.hid hM
 have Hw1:=Lib.hid hw1
 have Hgo:=Lib.hid hgo
 have HO1:=Lib.hid hO1
 have HI1:=Lib.hid hI1
 clear hN hHF hrows hrc0 hrv hrl hgf hcl hA q00 q01 q02 q03 hFn0 hA1 hgkc hC hK hCl hKl hCK hw1 hgo hO1 hI1 hQ hM
 go_enter Try.func74,Try.ntmps74
 go_upto_region 3 with (fail)
 try simp only[List.length_map,List.length_replicate]
 rw[←Hw1.out, ←Hgo.out]
 clear s2 sl q3 hb0 hmk
 go_wp2_with fail
 go_loopw [7] (fun iv' wr=>∃k:Nat,k≤N∧iv'= .int .i64 (k:Int)∧OwnI wr w.heap.size (some ⟨go,0,none⟩) N N (List.replicate k (-1)++List.replicate (N-k) 0)∧Only (fun _=>False) w wr) (fun i _=>N-(intOf i).toNat)
 case atStart=>exact ⟨0,Nat.zero_le _,rfl,HI1.out,HO1.out⟩
 case round=>
 rename World=>wr
 obtain ⟨k,hk,rfl,hI,hO⟩:=hrel
 by_cases hlt:k<N
 ·have g1:(k:Int)<(N:Int):=by omega
  have c0:=OwnI.at_ hI k (by simp;omega)
  obtain ⟨cf,cl⟩:=OwnI.room hI k (by simp;omega)
  have hI3:=OwnI.put hI k (-1);rw[rep_next k N hlt] at hI3;have HI3:=Lib.hid hI3;have HO3:=Lib.hid (hO.setCell (p:=⟨go,k,none⟩) (.inr (by rw[Hgo.out];exact Nat.le_refl _)) (.int .i64 (-1)))
  generalize (List.replicate k (-1:Int)++List.replicate (N-k) 0)[k]'(by simp;omega)=u0 at c0
  clear hI hO hI3;go_wp2_with fail
  exact ⟨⟨k+1,by omega,by go_num,HI3.out,HO3.out⟩,by simp[intOf];omega⟩
 obtain rfl:k=N:=by omega
 rw[Nat.sub_self,List.replicate_zero,List.append_nil] at hI
 have hQ2:=HQ.out.only hO (fun _ e=>e.elim) (fun e=>e)
 have s2:wr.cell? ⟨gs,2,none⟩=some (.slice p.AF F p.cF):=hQ2.blk.cell 2
 have sl:=hQ2.blk.lt
 have hmk:=run_ints F (by omega)
 obtain ⟨w3,hw3⟩:∃w',w'=wr.alloc (.cells (Array.replicate F (iv 0)) 3):=⟨_,rfl⟩
 obtain ⟨gf,hgf⟩:∃g,g=wr.heap.size:=⟨_,rfl⟩
 have hb23:Below wr.heap.size wr w3:=by rw[hw3];exact (Below.refl _ _).alloc (Nat.le_refl _) _
 have HO3:=Lib.hid (show Only (fun _=>False) w w3 from by rw[hw3];exact hO.alloc _)
 have HI3:=Lib.hid (show OwnI w3 w.heap.size (some ⟨go,0,none⟩) k k (List.replicate k (-1)) from Own.below hI hb23 (Nat.le_refl _))
 have HG3:=Lib.hid (show OwnI w3 w.heap.size (some ⟨gf,0,none⟩) F F (List.replicate 0 (-1)++List.replicate (F-0) 0) from by
  rw[hw3,hgf,show Array.replicate F (iv 0)=((List.replicate F (0:Int)).map iv).toArray from by simp]
  exact (OwnI.lit wr F (by omega) _ (by simp)).mono hO.size)
 have Hgofl:=Lib.hid (show w.heap.size≤gf∧gf≠go from ⟨by have:=hO.size;omega,by have:=(Own.row hI go rfl).2;omega⟩)
 have Hw3:=Lib.hid hw3
 have Hgf2:=Lib.hid hgf
 clear hI hO hQ2 hw3 hgf hb23 HI1 HO1
 go_upto_region 8 with (fail)
 try simp only[List.length_map,List.length_replicate]
 rw[←Hw3.out, ←Hgf2.out]
 clear s2 sl hmk
 go_wp2_with fail
 go_loopw [9] (fun iv' wr=>∃q:Nat,q≤F∧iv'= .int .i64 (q:Int)∧OwnI wr w.heap.size (some ⟨gf,0,none⟩) F F (List.replicate q (-1)++List.replicate (F-q) 0)∧OwnI wr w.heap.size (some ⟨go,0,none⟩) k k (List.replicate k (-1))∧Only (fun _=>False) w wr) (fun i _=>F-(intOf i).toNat)
 case atStart=>exact ⟨0,Nat.zero_le _,rfl,HG3.out,HI3.out,HO3.out⟩
 case round=>
 clear HG3 HI3 HO3
 rename World=>wr
 obtain ⟨q,hq,rfl,hG,hI,hO⟩:=hrel
 by_cases hlt:q<F
 ·have g1:(q:Int)<(F:Int):=by omega
  have c0:=OwnI.at_ hG q (by simp;omega)
  obtain ⟨cf,cl⟩:=OwnI.room hG q (by simp;omega)
  have hG3:=OwnI.put hG q (-1);rw[rep_next q F hlt] at hG3;have HG3:=Lib.hid hG3;have HI3:=Lib.hid (show OwnI (wr.setCell ⟨gf,q,none⟩ (.int .i64 (-1))) w.heap.size (some ⟨go,0,none⟩) k k (List.replicate k (-1)) from Own.fars hI (fun e=>by injection e with e;exact Hgofl.out.2 e.symm) _)
  have HO3:=Lib.hid (hO.setCell (p:=⟨gf,q,none⟩) (.inr Hgofl.out.1) (.int .i64 (-1)));generalize (List.replicate q (-1:Int)++List.replicate (F-q) 0)[q]'(by simp;omega)=u0 at c0
  clear hG hI hO hG3;go_wp2_with fail
  exact ⟨⟨q+1,by omega,by go_num,HG3.out,HI3.out,HO3.out⟩,by simp[intOf];omega⟩
 obtain rfl:q=F:=by omega
 rw[Nat.sub_self,List.replicate_zero,List.append_nil] at hG
 rename World=>w4
 have hQ4:=HQ.out.only hO (fun _ e=>e.elim) (fun e=>e)
 have n0:w4.cell? ⟨gs,0,none⟩=some (.int .i64 p.mem):=hQ4.blk.cell 0
 have n1:w4.cell? ⟨gs,1,none⟩=some (.slice p.AD p.data.length p.cD):=hQ4.blk.cell 1
 have n2:w4.cell? ⟨gs,2,none⟩=some (.slice p.AF q p.cF):=hQ4.blk.cell 2
 have n3:w4.cell? ⟨gs,3,none⟩=some (.slice (some ⟨bh,0,none⟩) q cH):=hQ4.blk.cell 3
 have nl:=hQ4.blk.lt
 have n4:w4.cell? ⟨bh,f,none⟩=some (.slice R k cR):=((bcell hQ4.bel).1 _ f Hrow.out.2.2.2).trans Hrow.out.1
 have n4l:bh<w4.heap.size:=by have:=hQ4.bel.size;have:=Hrow.out.2.2.2;omega
 have hpv:p.val= .agg #[.int .i64 p.mem,.slice p.AD p.data.length p.cD,.slice p.AF q p.cF]:=by rw[←hF]
 have Hca:=Lib.hid (refCalls_any p hs f k cR R (hs.getD f []) w4.drew ((hp.below hQ4.bel).below ((Below.refl _ w4).drew)) hg (by omega) rfl HHF.out ((Hrow.out.2.1.below hQ4.bel).below ((Below.refl _ w4).drew)) Hrow.out.2.2.1)
 rw[hpv] at Hca
 have HG4:=Lib.hid hG
 have HI4:=Lib.hid hI
 have HO4:=Lib.hid hO
 clear hQ4 hG hI hO
 go_upto_region 12 with (fail)
 obtain ⟨SC,hSCd⟩:∃S:World→Prop,S=fun w'=>(w'.cell? ⟨gs,0,none⟩=some (.int .i64 p.mem)∧w'.cell? ⟨gs,1,none⟩=some (.slice p.AD p.data.length p.cD)∧w'.cell? ⟨gs,2,none⟩=some (.slice p.AF q p.cF)∧w'.cell? ⟨gs,3,none⟩=some (.slice (some ⟨bh,0,none⟩) q cH)∧gs<w'.heap.size)∧(w'.cell? ⟨bh,f,none⟩=some (.slice R k cR)∧bh<w'.heap.size):=⟨_,rfl⟩
 have hSC:SC w4.drew:=by rw[hSCd];exact ⟨⟨n0,n1,n2,n3,nl⟩,n4,n4l⟩
 have HSC:=Lib.hid (show SC w4.drew from hSC)
 have HSd:=Lib.hid hSCd
 clear hSC hSCd
 refine region_heldT 13 SC (by kernel_rfl) (by decide) ?_
 refine hwK 0 (.pointer (some ⟨gs,0,none⟩)) HSC.out ?_
 simp only[Act.put,List.setIfInBounds_toArray]
 refine hwK 1 (.pointer (some ⟨gs,0,none⟩)) HSC.out ?_
 simp only[Act.put]
 refine hwK 2 (.pointer (some ⟨gs,0,none⟩)) HSC.out ?_
 simp only[Act.put]
 try simp only[List.getElem_toArray,List.getElem_cons_succ,List.getElem_cons_zero,List.setIfInBounds_toArray,List.set_cons_succ,List.set_cons_zero]
 refine hwK 3 (.agg #[.int .i64 p.mem,.slice p.AD p.data.length p.cD,.slice p.AF q p.cF]) HSC.out ?_
 simp only[Act.put]
 refine hwK 4 (.int .i64 (f:Int)) HSC.out ?_
 simp only[Act.put]
 refine hwK 5 (.pointer (some ⟨gs,0,none⟩)) HSC.out ?_
 simp only[Act.put]
 try simp only[List.getElem_toArray,List.getElem_cons_succ,List.getElem_cons_zero,List.setIfInBounds_toArray,List.set_cons_succ,List.set_cons_zero]
 refine hwK 6 (.pointer (some ⟨gs,0,none⟩)) HSC.out ?_
 simp only[Act.put]
 refine hwK 7 (.pointer (some ⟨gs,3,none⟩)) HSC.out ?_
 simp only[Act.put]
 refine hwK 8 (.pointer (some ⟨gs,3,none⟩)) HSC.out ?_
 simp only[Act.put]
 try simp only[List.getElem_toArray,List.getElem_cons_succ,List.getElem_cons_zero,List.setIfInBounds_toArray,List.set_cons_succ,List.set_cons_zero]
 refine hwK 9 (.slice (some ⟨bh,0,none⟩) q cH) HSC.out ?_
 simp only[Act.put]
 refine hwK 10 (.int .i64 (f:Int)) HSC.out ?_
 simp only[Act.put]
 refine hwK 11 (.pointer (some ⟨bh,f,none⟩)) HSC.out ?_
 simp only[Act.put]
 try simp only[List.getElem_toArray,List.getElem_cons_succ,List.getElem_cons_zero,List.setIfInBounds_toArray,List.set_cons_succ,List.set_cons_zero]
 refine hwK 12 (.slice R k cR) HSC.out ?_
 simp only[Act.put]
 try simp only[List.getElem_toArray,List.getElem_cons_succ,List.getElem_cons_zero,List.setIfInBounds_toArray,List.set_cons_succ,List.set_cons_zero]
 refine fun hInv=>⟨by kernel_rfl,?_⟩
 clear hInv
 simp only[List.drop_succ_cons,List.drop_zero]
 clear HSC HSd
 clear SC
 clear n0 n1 n2 n3 nl n4 n4l
 go_wp2_with fail
 refine Hca.out.mono ?_
 rintro e w5 ⟨AL,cl,rfl,hO5,hb45⟩
 rw[callsR_ints] at hO5 ⊢
 rw[ints_len] at hO5 ⊢
 obtain ⟨L,hL⟩:∃L,L=cg p.plain hs f:=⟨_,rfl⟩
 rw[←hL] at hO5 ⊢
 have hm4:L.length≤4096:=by rw[hL];exact cg_len4 hg hs f
 obtain ⟨m,hm⟩:∃m,m=L.length:=⟨_,rfl⟩
 rw[←hm] at hO5 hm4 ⊢
 have hE5:Only (fun _=>False) w w5:=HO4.out.trans (((Only.refl _ w4).drew).trans (Only.of_fresh hb45))
 have HG5:=Lib.hid (show OwnI w5 w.heap.size (some ⟨gf,0,none⟩) q q (List.replicate q (-1)) from Own.below HG4.out (((Below.refl _ w4).drew).trans hb45) (Nat.le_refl _))
 have HI5:=Lib.hid (show OwnI w5 w.heap.size (some ⟨go,0,none⟩) k k (List.replicate k (-1)) from Own.below HI4.out (((Below.refl _ w4).drew).trans hb45) (Nat.le_refl _))
 have HL5:=Lib.hid (show OwnI w5 w.heap.size AL m cl (ints L) from hO5.mono HO4.out.size)
 have HM5:=Lib.hid (HM.out.only hE5 (fun e=>e) (fun e=>e))
 have HO5:=Lib.hid (show Only (fun b=>b=gk∨b=gw) w w5 from hE5.mono (fun _ _ e=>e.elim))
 have HLd:=Lib.hid hL
 have Hm:=Lib.hid hm
 have HAL:=Lib.hid (show ∀b,AL.map (·.block)=some b→b≠gf from fun b e=>by
  have h1:=(Own.row hO5 b e).1;have h2:=(Own.row HG4.out gf rfl).2;change w4.heap.size≤b at h1
  omega)
 clear hO5 hb45 hE5 hL hm Hca HG4 HI4 HO4
 go_wp2_with fail
 go_loopw [11] (fun iv' wr=>∃(j:Nat) (O:List Int) (K':List Bool),j≤m∧iv'= .int .i64 (j:Int)∧OwnI wr w.heap.size (some ⟨gf,0,none⟩) q q O∧OwnI wr w.heap.size (some ⟨go,0,none⟩) k k (List.replicate k (-1))∧OwnI wr w.heap.size AL m cl (ints L)∧DoneM wr B gk gw q K' (vC p.plain)∧Hid (KI (cg p.plain hs) f K K'∧OfOk p.plain hs f q j O)∧Only (fun b=>b=gk∨b=gw) w wr) (fun i _=>m-(intOf i).toNat)
 case atStart=>exact ⟨0,_,K,Nat.zero_le _,rfl,HG5.out,HI5.out,HL5.out,HM5.out,Lib.hid ⟨KI.start,OfOk.start _ _ _ _⟩,HO5.out⟩
 case round=>
 clear HG5 HI5 HL5 HM5 HO5
 rename World=>wr
 obtain ⟨j,O,K',hj,rfl,hG,hI,hLs,hM',HJ,hO⟩:=hrel
 have HGr:=Lib.hid hG
 have HIr:=Lib.hid hI
 have HLr:=Lib.hid hLs
 have HMr:=Lib.hid hM'
 have HOr:=Lib.hid hO
 by_cases hlt:j<m
 ·as_aux_lemma=>
  have g1:(j:Int)<(m:Int):=by omega
  obtain ⟨u,hu⟩:∃u,L[j]?=some u:=⟨_,List.getElem?_eq_getElem (by rw[←Hm.out];exact hlt)⟩
  have hucg:u∈cg p.plain hs f:=by rw[←HLd.out];exact List.mem_of_getElem? hu
  have huq:u<q:=by have:=cg_lt hg hucg;omega
  obtain ⟨ga,rfl,hga0,hga⟩:=own_some hLs (by omega)
  have c1:wr.cell? ⟨ga,j,none⟩=some (.int .i64 (u:Int)):=by
   have h1:=OwnI.at_ hLs j (by rw[ints_len, ←Hm.out];exact hlt)
   have h2:(ints L)[j]?=some (u:Int):=by rw[List.getElem?_map,hu];rfl
   rw[(List.getElem?_eq_some_iff.1 h2).2] at h1;exact h1
  have cl1:=(OwnI.room hLs j (by rw[ints_len, ←Hm.out];exact hlt)).2
  obtain ⟨x,hx⟩:∃x,O[u]?=some x:=⟨_,List.getElem?_eq_getElem (by rw[HJ.out.2.len];exact huq)⟩
  have cO:=OwnI.at_ hG u (by rw[HJ.out.2.len];exact huq)
  rw[(List.getElem?_eq_some_iff.1 hx).2] at cO;have col:=(OwnI.room hG u (by rw[HJ.out.2.len];exact huq)).2
  have guq:(u:Int)<(q:Int):=by omega
  have Hga:=Lib.hid (show ¬ (ga=gk∨ga=gw) from by rintro (e|e)<;>omega)
  have Hu:=Lib.hid (show (cg p.plain hs f)[j]?=some u from by rw[←HLd.out];exact hu)
  have Hx:=Lib.hid hx;have Hucg:=Lib.hid hucg;have hgfga:ga≠gf:=HAL.out ga rfl;have Hgf3:=Lib.hid (show ¬ ga=gf from hgfga)
  have hQr:=HQ.out.only hO (fun b e=>e.elim (fun e=>by rw[e];exact hS.lk) (fun e=>by rw[e];exact hS.lw)) (fun e=>e.elim hS.sk hS.sw)
  have HK:=Lib.hid (ih u hucg K' wr.drew (hQr.only (Only.refl (fun _=>False) wr).drew (fun _ e=>e.elim) (fun e=>e)) (hM'.only (Only.refl (fun _=>False) wr).drew (fun e=>e) (fun e=>e)));clear hG hI hLs hM' hO hu hx hucg hQr hgfga;by_cases hx1:x= -1
  ·subst hx1;go_upto_region 17 with (fail)
   clear cO col;go_cut [] from 81 to 92 (fun wx=>∃K2,OwnI wx w.heap.size (some ⟨gf,0,none⟩) q q (O.set u (vC p.plain u))∧OwnI wx w.heap.size (some ⟨go,0,none⟩) k k (List.replicate k (-1))∧OwnI wx w.heap.size (some ⟨ga,0,none⟩) m cl (ints L)∧DoneM wx B gk gw q K2 (vC p.plain)∧KP (cg p.plain hs) u K' K2∧Only (fun b=>b=gk∨b=gw) w wx)
   case first=>
    obtain ⟨SC,hSCd⟩:∃S:World→Prop,S=fun w'=>w'.cell? ⟨ga,j,none⟩=some (.int .i64 (u:Int))∧ga<w'.heap.size:=⟨_,rfl⟩;have hSC:SC wr.drew:=by rw[hSCd];exact ⟨c1,cl1⟩
    have HSC:=Lib.hid (show SC wr.drew from hSC)
    have HSd:=Lib.hid hSCd;clear hSC hSCd;refine region_heldT 13 SC (by kernel_rfl) (by decide) ?_
    refine hwA 0 (.slice (some ⟨gf,0,none⟩) q q) HSC.out ?_;simp only[Act.put,List.setIfInBounds_toArray];refine hwA 1 (.slice (some ⟨ga,0,none⟩) m cl) HSC.out ?_;simp only[Act.put];refine hwA 2 (.int .i64 (j:Int)) HSC.out ?_;simp only[Act.put];try simp only[List.getElem_toArray,List.getElem_cons_succ,List.getElem_cons_zero,List.setIfInBounds_toArray,List.set_cons_succ,List.set_cons_zero]
    refine hwA 3 (.pointer (some ⟨ga,j,none⟩)) HSC.out ?_;simp only[Act.put];refine hwA 4 (.int .i64 (u:Int)) HSC.out ?_;simp only[Act.put];refine hwA 5 (.pointer (some ⟨gs,0,none⟩)) HSC.out ?_;simp only[Act.put];try simp only[List.getElem_toArray,List.getElem_cons_succ,List.getElem_cons_zero,List.setIfInBounds_toArray,List.set_cons_succ,List.set_cons_zero]
    refine hwA 6 (.slice (some ⟨ga,0,none⟩) m cl) HSC.out ?_;simp only[Act.put];refine hwA 7 (.int .i64 (j:Int)) HSC.out ?_;simp only[Act.put];refine hwA 8 (.pointer (some ⟨ga,j,none⟩)) HSC.out ?_;simp only[Act.put];try simp only[List.getElem_toArray,List.getElem_cons_succ,List.getElem_cons_zero,List.setIfInBounds_toArray,List.set_cons_succ,List.set_cons_zero]
    refine hwA 9 (.int .i64 (u:Int)) HSC.out ?_;simp only[Act.put];try simp only[List.getElem_toArray,List.getElem_cons_succ,List.getElem_cons_zero,List.setIfInBounds_toArray,List.set_cons_succ,List.set_cons_zero]
    refine hwO 10 fun K hK=>?_;go_simp;refine HK.out.mono ?_;rintro e w2 ⟨rfl,K2,hP2,hM2,hO2⟩;have HP2:=Lib.hid hP2;have HM2:=Lib.hid hM2;have HO2:=Lib.hid (show Only (fun b=>b=gk∨b=gw) wr w2 from ((Only.refl _ wr).drew).trans hO2)
    have hSC2:SC w2:=by
     have h:=HSC.out;rw[HSd.out] at h ⊢;obtain ⟨e0,l0⟩:=h;have hz:=hO2.size;exact ⟨(hO2.cell l0 Hga.out).trans e0,by omega⟩
    refine hK.out _ _ hSC2 (fun hHeld=>?_);clear hK K hHeld hP2 hM2 hO2;have hG2:=own_two HGr.out HO2.out hgkl hgwl;have c2:=OwnI.at_ hG2 u (by rw[HJ.out.2.len];exact huq)
    obtain ⟨cf2,cl2⟩:=OwnI.room hG2 u (by rw[HJ.out.2.len];exact huq)
    generalize O[u]'(by rw[HJ.out.2.len];exact huq)=y2 at c2
    have HG2:=Lib.hid (show OwnI w2 w.heap.size (some ⟨gf,0,none⟩) q q O from hG2)
    have HI2:=Lib.hid (show OwnI w2 w.heap.size (some ⟨go,0,none⟩) k k (List.replicate k (-1)) from own_two HIr.out HO2.out hgkl hgwl)
    have HL2:=Lib.hid (show OwnI w2 w.heap.size (some ⟨ga,0,none⟩) m cl (ints L) from own_two HLr.out HO2.out hgkl hgwl)
    clear hG2;refine hwA 11 (.pointer (some ⟨gf,u,none⟩)) hSC2 ?_;simp only[Act.put];refine hwO 12 fun K hK=>?_;go_simp
    have hSC3:SC (w2.setCell ⟨gf,u,none⟩ (.int .i64 (vC p.plain u))):=by
     rw[HSd.out] at hSC2 ⊢;obtain ⟨e0,l0⟩:=hSC2;have hO:Only (fun b=>b=gf) w2 (w2.setCell ⟨gf,u,none⟩ (.int .i64 (vC p.plain u))):=(Only.refl (fun b=>b=gf) w2).setCell (p:=⟨gf,u,none⟩) (.inl rfl) _;have hz:=hO.size;exact ⟨(hO.cell l0 Hgf3.out).trans e0,by omega⟩
    refine hK.out _ _ hSC3 (fun hHeld=>?_);clear hK K hHeld hSC2 hSC3;refine fun _=>⟨by kernel_rfl,?_⟩
    simp only[List.drop_succ_cons,List.drop_zero];clear HSC HSd;clear SC;go_wp2_with fail
    go_meet
    case rel=>
     have hE:Only (fun b=>b=gf) w2 (w2.setCell ⟨gf,u,none⟩ (.int .i64 (vC p.plain u))):=(Only.refl (fun b=>b=gf) w2).setCell (p:=⟨gf,u,none⟩) (.inl rfl) _;refine ⟨K2,OwnI.put HG2.out u _,Own.fars HI2.out (fun e=>by injection e with e;exact Hgofl.out.2 e.symm) _,Own.fars HL2.out (fun e=>by injection e with e;exact Hgf3.out e) _,HM2.out.only hE (fun e=>?_) (fun e=>?_),HP2.out,(HOr.out.trans HO2.out).setCell (p:=⟨gf,u,none⟩) (.inr Hgofl.out.1) _⟩
     ·have:=Hgofl.out.1;omega
     have:=Hgofl.out.1;omega
   case rest=>
   rename World=>w6;obtain ⟨K2,hG6,hI6,hL6,hM6,hP6,hO6⟩:=hcut
   have d1:w6.cell? ⟨ga,j,none⟩=some (.int .i64 (u:Int)):=by
    have h1:=OwnI.at_ hL6 j (by rw[ints_len, ←Hm.out];exact hlt)
    have h2:(ints L)[j]?=some (u:Int):=by rw[HLd.out,List.getElem?_map,Hu.out];rfl
    rw[(List.getElem?_eq_some_iff.1 h2).2] at h1;exact h1
   have dl1:=(OwnI.room hL6 j (by rw[ints_len, ←Hm.out];exact hlt)).2
   have d2:w6.cell? ⟨gf,u,none⟩=some (.int .i64 (vC p.plain u)):=by
    have h1:=OwnI.at_ hG6 u (by rw[List.length_set,HJ.out.2.len];exact huq)
    rw[List.getElem_set_self] at h1;exact h1
   have dl2:=(OwnI.room hG6 u (by rw[List.length_set,HJ.out.2.len];exact huq)).2
   have HG6:=Lib.hid hG6;have HI6:=Lib.hid hI6;have HL6:=Lib.hid hL6;have HM6:=Lib.hid hM6;have HO6:=Lib.hid hO6;have HKI:=Lib.hid (HJ.out.1.step Hucg.out hP6);clear hG6 hI6 hL6 hM6 hP6 hO6 c1 cl1 HK;obtain ⟨vu,hvu⟩:∃v,v=vC p.plain u:=⟨_,rfl⟩;rw[←hvu] at d2;have Hvu:=Lib.hid hvu;clear hvu;by_cases hv1:vu= -1
   ·subst hv1;have HF:=Lib.hid (show RecPost p.plain hs B gk gw q f K w (.returned (.int .i64 (-1))) w6 from ⟨by rw[vC_call S hg hr Hucg.out Hvu.out.symm],K2,HKI.out,HM6.out,HO6.out⟩)
    go_wp2_with fail
    go_ret
    exact HF.out
   have hv2:(vu== -1)=false:=by simpa using hv1
   have HOf:=Lib.hid (HJ.out.2.put Hu.out huq (by rw[←Hvu.out];exact hv1))
   go_wp2_with fail
   exact ⟨⟨j+1,_,K2,by omega,by go_num,HG6.out,HI6.out,HL6.out,HM6.out,Lib.hid ⟨HKI.out,HOf.out⟩,HO6.out⟩,by simp[intOf];omega⟩
  have hx2:(x== -1)=false:=by simpa using hx1
  have HOf:=Lib.hid (HJ.out.2.skip Hu.out Hx.out hx1);go_wp2_with fail
  exact ⟨⟨j+1,O,K',by omega,by go_num,HGr.out,HIr.out,HLr.out,HMr.out,Lib.hid ⟨HJ.out.1,HOf.out⟩,HOr.out⟩,by simp[intOf];omega⟩
 obtain rfl:j=m:=by omega
 rename World=>w7
 have HOf:=Lib.hid (show ∀u∈cg p.plain hs f,O[u]?=some (vC p.plain u)∧vC p.plain u≠ -1 from fun u hu=>HJ.out.2.done u (by rw[←HLd.out,List.take_of_length_le (by rw[←Hm.out];exact Nat.le_refl _),HLd.out];exact hu))
 have HGf:=Lib.hid (show O.length=q∧KI (cg p.plain hs) f K K'∧DoneM w7 B gk gw q K' (vC p.plain)∧go≠gk∧go≠gw∧w.heap.size≤go from ⟨HJ.out.2.len,HJ.out.1,HMr.out,by have:=Hgo.out;omega,by have:=Hgo.out;omega,by have:=Hgo.out;omega⟩)
 clear hG hI hLs hM' hO HLr HJ
 go_wp2_with fail
 go_loopw [12] (fun av wr=>∃(ag:Bool) (D:List Int),av= .bool ag∧OwnI wr w.heap.size (some ⟨go,0,none⟩) k k D∧Hid (OutOk p.plain f k D∧(ag=false→∀i,i<k→Stuck p.plain hs f D i))∧Only (fun b=>b=go) w7 wr) (fun av wr=>2*nones (rdI wr go k)+flagN av)
 case atStart=>exact ⟨true,_,rfl,HIr.out,Lib.hid ⟨OutOk.start _ _ _,fun h=>by cases h⟩,Only.refl _ _⟩
 case round=>
 clear HIr
 rename World=>wr
 obtain ⟨ag,D,rfl,hI,HD,hO⟩:=hrel
 have HI:=Lib.hid hI
 have HO:=Lib.hid hO
 have HOw:=Lib.hid (show Only (fun b=>b=gk∨b=gw) w wr from HOr.out.more hO fun b hb e=>by have:=HGf.out.2.2.2.2.2;omega)
 cases ag with
 |false=>
  have hfin:=HD.out.1.fin S hg hr (by omega) HN.out.symm (HD.out.2 rfl)
  have c0:=OwnI.at_ hI 0 (by rw[HD.out.1.len];exact hN0)
  rw[(List.getElem?_eq_some_iff.1 hfin).2] at c0;have cl0:=(OwnI.room hI 0 (by rw[HD.out.1.len];exact hN0)).2
  have gk0:(0:Int)<(k:Int):=by omega
  obtain ⟨vf,hvf⟩:∃v,v=vC p.plain f:=⟨_,rfl⟩;rw[←hvf] at c0;have HF:=Lib.hid (show RecPost p.plain hs B gk gw q f K w (.returned (.int .i64 vf)) wr from ⟨by rw[hvf],K',HGf.out.2.1,HGf.out.2.2.1.only hO (fun e=>HGf.out.2.2.2.1 e.symm) (fun e=>HGf.out.2.2.2.2.1 e.symm),HOw.out⟩)
  clear hI hO hfin hvf;go_wp2_with fail
  go_ret
  exact HF.out
 |true=>
  have hwk:IntKind.i64.wrap ((k:Int)-1)=(k:Int)-1:=by rw[IntKind.wrap_i64];omega
  have Hm5:=Lib.hid (show nones (rdI wr go k)=nones D from by rw[rdI_own hI HD.out.1.len])
  clear hI hO;go_wp2_with fail
  go_loopw [12,13] (fun av zv wz=>∃(j:Nat) (ag:Bool) (D':List Int),av= .bool ag∧zv= .int .i64 ((j:Int)-1)∧j≤k∧OwnI wz w.heap.size (some ⟨go,0,none⟩) k k D'∧Hid (OutOk p.plain f k D'∧(ag=false→D'=D∧∀i,j≤i→i<k→Stuck p.plain hs f D i)∧(ag=true→nones D'<nones D))∧Only (fun b=>b=go) w7 wz) (fun _ zv _=>(intOf zv+1).toNat)
  case atStart=>exact ⟨k,false,D,rfl,rfl,Nat.le_refl _,HI.out,Lib.hid ⟨HD.out.1,fun _=>⟨rfl,fun i h1 h2=>by omega⟩,fun h=>by cases h⟩,HO.out⟩
  case round=>
  rename World=>wz;obtain ⟨j,ag,D',rfl,rfl,hj,hI,HD',hO⟩:=hrel;have HIz:=Lib.hid hI;have HOz:=Lib.hid hO;cases j with
  |zero=>
   have g1: ¬ (0:Int)≤((0:Nat):Int)-1:=by omega
   have HQ2:=Lib.hid (show OutOk p.plain f k D'∧(ag=false→∀i,i<k→Stuck p.plain hs f D' i) from ⟨HD'.out.1,fun h i hi=>by
    obtain ⟨e,h2⟩:=HD'.out.2.1 h;rw[e];exact h2 i (Nat.zero_le _) hi⟩)
   have Hms:=Lib.hid (show 2*nones (rdI wz go k)+flagN (.bool ag)<2*nones (rdI wr go k)+flagN (.bool true) from by
    rw[Hm5.out,rdI_own hI HD'.out.1.len];cases ag with
    |false=>obtain ⟨e,-⟩:=HD'.out.2.1 rfl;rw[e];exact Nat.lt_succ_self _
    |true=>have h1:=HD'.out.2.2 rfl;show 2*nones D'+1<2*nones D+1;omega)
   clear hI hO;go_wp2_with fail
   exact ⟨⟨ag,D',rfl,HIz.out,HQ2,HOz.out⟩,Hms.out⟩
  |succ i=>
   as_aux_lemma=>
   have hzz:((i+1:Nat):Int)-1=(i:Int):=by omega
   rw[hzz];have g1:(0:Int)≤(i:Int):=by omega
   have hik:i<k:=by omega
   have gik:(i:Int)<(k:Int):=by omega
   have hwd:IntKind.i64.wrap ((i:Int)-1)=(i:Int)-1:=by rw[IntKind.wrap_i64];omega
   have HOw2:=Lib.hid (show Only (fun b=>b=gk∨b=gw) w wz from HOr.out.more hO fun b hb e=>by have:=HGf.out.2.2.2.2.2;omega)
   have hQz:=HQ.out.only HOw2.out (fun b e=>e.elim (fun e=>by rw[e];exact hS.lk) (fun e=>by rw[e];exact hS.lw)) (fun e=>e.elim hS.sk hS.sw)
   have HQz:=Lib.hid hQz;obtain ⟨x,hx⟩:∃x,D'[i]?=some x:=⟨_,List.getElem?_eq_getElem (by rw[HD'.out.1.len];exact hik)⟩
   have c1:=OwnI.at_ hI i (by rw[HD'.out.1.len];exact hik)
   rw[(List.getElem?_eq_some_iff.1 hx).2] at c1;obtain ⟨cf1,cl1⟩:=OwnI.room hI i (by rw[HD'.out.1.len];exact hik)
   obtain ⟨rb,ro,rfl,hrb,hrc⟩:=Hrow.out.2.1.at_ (by rw[List.length_map,Hrow.out.2.2.1];omega)
   obtain ⟨hv,hhv⟩:∃x,x=htAt hs f i:=⟨_,rfl⟩
   have c2:wz.cell? ⟨rb,ro+i,none⟩=some (.int .i64 hv):=((bcell hQz.bel).1 _ _ hrb).trans<|hrc i _ (by
    rw[hhv,List.getElem?_map];unfold htAt;rw[List.getD_eq_getElem?_getD (l:=hs.getD f []),List.getElem?_eq_getElem (by rw[Hrow.out.2.2.1];exact hik)]
    rfl)
   have cl2:rb<wz.heap.size:=by have:=hQz.bel.size;omega
   have c3:wz.cell? ⟨bh,f,none⟩=some (.slice (some ⟨rb,ro,none⟩) k cR):=((bcell hQz.bel).1 _ f Hrow.out.2.2.2).trans Hrow.out.1;have cl3:bh<wz.heap.size:=by have:=hQz.bel.size;have:=Hrow.out.2.2.2;omega
   have s3:wz.cell? ⟨gs,3,none⟩=some (.slice (some ⟨bh,0,none⟩) q cH):=hQz.blk.cell 3;have s0:wz.cell? ⟨gs,0,none⟩=some (.int .i64 p.mem):=hQz.blk.cell 0;have s1:wz.cell? ⟨gs,1,none⟩=some (.slice p.AD p.data.length p.cD):=hQz.blk.cell 1;have s2:wz.cell? ⟨gs,2,none⟩=some (.slice p.AF q p.cF):=hQz.blk.cell 2;have sl:=hQz.blk.lt;have Hx:=Lib.hid hx;have Hhv:=Lib.hid hhv;clear hI hO hQz hx hrc hhv
   have HSt:=Lib.hid (show Stuck p.plain hs f D' i→(OutOk p.plain f k D'∧(ag=false→D'=D∧∀a,i≤a→a<k→Stuck p.plain hs f D a)∧(ag=true→nones D'<nones D)) from fun hst=>⟨HD'.out.1,fun h=>by
    obtain ⟨e,h2⟩:=HD'.out.2.1 h;refine ⟨e,fun a h3 h4=>?_⟩;rcases Nat.lt_or_ge i a with h5|h5
    ·exact h2 a h5 h4
    obtain rfl:a=i:=by omega
    rw[←e];exact hst,HD'.out.2.2⟩)
   by_cases hx1:x= -1
   ·subst hx1;by_cases hv1:hv= -1
    ·subst hv1;have HS2:=Lib.hid (HSt.out (.inr (.inl Hhv.out.symm)));clear s0 s1 s2;go_wp2_with fail
     exact ⟨⟨i,ag,D',rfl,rfl,by omega,HIz.out,HS2,HOz.out⟩,by simp[intOf]⟩
    have hv2:(hv== -1)=false:=by simpa using hv1
    have hif:htAt hs f i≠ -1:=by rw[←Hhv.out];exact hv1
    have hri:Reach (nxF p.plain f) 0 i:=by
     unfold htAt at hif;rw[List.getD_eq_getElem?_getD (l:=hs.getD f []),List.getElem?_eq_getElem (by rw[Hrow.out.2.2.1];exact hik)] at hif
     exact HHF.out.come i _ (List.getElem?_eq_getElem (by rw[Hrow.out.2.2.1];exact hik)) hif
    have Hri:=Lib.hid hri;obtain ⟨ins,hins⟩:∃x,gg.code[i]?=some x:=⟨_,List.getElem?_eq_getElem (by rw[Hcd.out.1];exact hik)⟩
    have hpi:p.plain.ins f i=some ins:=by rw[PrgM.ins_plain,Hgf.out,Option.bind_some,hins]
    have Hpi:=Lib.hid hpi;have Hins:=Lib.hid hins;have hnx:=refNext_any p f i wz (hp.below HQz.out.bel);rw[nextL_nx] at hnx;have hpv:p.val= .agg #[.int .i64 p.mem,.slice p.AD p.data.length p.cD,.slice p.AF q p.cF]:=by rw[←hF]
    rw[hpv] at hnx;have Hnx:=Lib.hid hnx;have hyl:=nxF_len p.plain f i;obtain ⟨ys,hys⟩:∃l,l=nxF p.plain f i:=⟨_,rfl⟩;rw[←hys] at Hnx hyl;have Hys:=Lib.hid hys;have Hyk:=Lib.hid (show ∀u∈ys,u<k from fun u hu=>by rw[HN.out];rw[hys] at hu;exact nxF_lt hu)
    clear hif hri hins hpi hnx hpv hys;go_wp2_with fail
    refine Hnx.out.mono ?_;rintro e wa ⟨A9,c9,rfl,hO9,hb9⟩;rw[ints_len] at hO9 ⊢;have HIa:=Lib.hid (show OwnI wa w.heap.size (some ⟨go,0,none⟩) k k D' from Own.below HIz.out hb9 (Nat.le_refl _))
    have HOa:=Lib.hid (show Only (fun b=>b=go) w7 wa from HOz.out.trans (Only.of_fresh hb9))
    have Hkn:=Lib.hid (known_ref D' ys (some ⟨go,0,none⟩) A9 k k c9 wa (RV.of_own HIa.out) HD'.out.1.len (RV.of_own hO9) Hyk.out (by omega) (by omega))
    clear hO9 hb9 Hnx s0 s1 s2 s3 sl c2 c3 cl2 cl3 c1 cf1 cl1;go_wp2_with fail
    refine Hkn.out.mono ?_;rintro e wb ⟨hwb,hres⟩;obtain rfl:wa=wb:=hwb;clear Hkn;rcases hres with ⟨rfl,hkn⟩|⟨rfl,u,hu,hun⟩
    ·obtain ⟨n,hn⟩:∃n,n=maxO D' ys:=⟨_,rfl⟩;rw[←hn];have hval:=HD'.out.1.val S hg hr Hri.out (by rw[←Hys.out];exact hkn) HN.out.symm
     rw[←Hys.out, ←hn] at hval;have hn0:=hval.1;have hn1:=hval.2.1;have Hn:=Lib.hid hn;have Hkn:=Lib.hid hkn;have wr1:IntKind.i64.wrap (1+n)=1+n:=by rw[IntKind.wrap_i64];omega
     have c1:=OwnI.at_ HIa.out i (by rw[HD'.out.1.len];exact hik)
     obtain ⟨cf1,cl1⟩:=OwnI.room HIa.out i (by rw[HD'.out.1.len];exact hik)
     generalize D'[i]'(by rw[HD'.out.1.len];exact hik)=y1 at c1
     have HIc:=Lib.hid (show OwnI (wa.setCell ⟨go,i,none⟩ (.int .i64 (1+n))) w.heap.size (some ⟨go,0,none⟩) k k (D'.set i (1+n)) from OwnI.put HIa.out i _)
     have HOc:=Lib.hid (show Only (fun b=>b=go) w7 (wa.setCell ⟨go,i,none⟩ (.int .i64 (1+n))) from HOa.out.setCell (p:=⟨go,i,none⟩) (.inl rfl) _)
     clear hval hn hkn;go_upto_region 30 with (fail)
     generalize wa.setCell ⟨go,i,none⟩ (.int .i64 (1+n))=wc at*
     clear c1 cf1 cl1;have HOwc:=Lib.hid (show Only (fun b=>b=gk∨b=gw) w wc from HOr.out.more HOc.out fun b hb e=>by have:=HGf.out.2.2.2.2.2;omega)
     have hQc:=HQ.out.only HOwc.out (fun b e=>e.elim (fun e=>by rw[e];exact hS.lk) (fun e=>by rw[e];exact hS.lw)) (fun e=>e.elim hS.sk hS.sw)
     obtain ⟨b0',off',hA',hb0',-,-,-,-,hFn,-⟩:=hp.fn Hgf.out;obtain ⟨b1',off1',hA1,hb1,i0,i1,-,-⟩:=hFn.ins Hins.out;rw[Hcd.out.2.1] at hA1;injection hA1 with hA1
     injection hA1 with e1 e2
     subst e1 e2;have j0:=((bcell hQc.bel).1 _ _ hb1).trans i0;have j1:=((bcell hQc.bel).1 _ _ hb1).trans i1;have jl:b1<wc.heap.size:=by have:=hQc.bel.size;omega
     have y0:wc.cell? ⟨go,i,none⟩=some (.int .i64 (1+n)):=by
      have h1:=OwnI.at_ HIc.out i (by rw[List.length_set,HD'.out.1.len];exact hik)
      rw[List.getElem_set_self] at h1;exact h1
     obtain ⟨y0f,y0l⟩:=OwnI.room HIc.out i (by rw[List.length_set,HD'.out.1.len];exact hik)
     have HMc:=Lib.hid (HGf.out.2.2.1.only HOc.out (fun e=>HGf.out.2.2.2.1 e.symm) (fun e=>HGf.out.2.2.2.2.1 e.symm));clear hQc hA' hb0' hFn i0 i1;have hbb1:b1<w0.heap.size:=hb1;obtain ⟨op,a⟩:=ins;dsimp only at j0 j1;have hcall:callC p.plain f (kcL p.plain) i=if op=17 then kcL p.plain a.toNat else 0:=by unfold callC;rw[Hpi.out]
     by_cases h17:op=17
     ·subst h17;rw[if_pos rfl] at hcall;obtain ⟨-,-,hGcg⟩:=S.call hg (by omega) Hri.out Hpi.out rfl
      dsimp only at hGcg
      have ha0:0≤a:=by
       have h1:=(good_call0 hg Hpi.out rfl);exact h1
      obtain ⟨G,rfl⟩:=Int.eq_ofNat_of_zero_le ha0;rw[Int.toNat_natCast] at hGcg hcall;obtain ⟨hO1,hO2⟩:=HOf.out G hGcg;obtain ⟨hv3,hv4,hv5⟩:=vC_pos hO2;have hGq:G<q:=by have:=cg_lt hg hGcg;omega
      obtain ⟨vG,hvG⟩:∃v,v=vC p.plain G:=⟨_,rfl⟩;rw[←hvG] at hO1 hv3;have hvG0:0≤vG∧vG≤1099511627776:=by rw[hv3];exact ⟨hv4,hv5⟩
      have hGo:OwnI wc w.heap.size (some ⟨gf,0,none⟩) q q O:=Own.only HGr.out HOc.out (fun b o e e2=>by injection e with e;injection e with e;exact Hgofl.out.2 (e.trans e2))
      have y2:wc.cell? ⟨gf,G,none⟩=some (.int .i64 vG):=by
       have h1:=OwnI.at_ hGo G (by rw[HGf.out.1];exact hGq)
       rw[(List.getElem?_eq_some_iff.1 hO1).2] at h1;exact h1
      have y2l:=(OwnI.room hGo G (by rw[HGf.out.1];exact hGq)).2
      have y1:=j1;have y1l:=jl;have gGq:(G:Int)<(q:Int):=by omega
      have wr2:IntKind.i64.wrap (1+n+vG)=1+n+vG:=by rw[IntKind.wrap_i64];omega
      have Hcall:=Lib.hid (show 1+callC p.plain f (kcL p.plain) i+maxO D' ys=1+n+vG from by rw[hcall, ←Hn.out,hv3];omega)
      have HI31:=Lib.hid (show OwnI (wc.setCell ⟨go,i,none⟩ (.int .i64 (1+n+vG))) w.heap.size (some ⟨go,0,none⟩) k k (D'.set i (1+n+vG)) from by
       have h1:=OwnI.put HIc.out i (1+n+vG);rw[List.set_set] at h1;exact h1)
      have HO31:=Lib.hid (show Only (fun b=>b=go) w7 (wc.setCell ⟨go,i,none⟩ (.int .i64 (1+n+vG))) from HOc.out.setCell (p:=⟨go,i,none⟩) (.inl rfl) _)
      clear hcall hGcg ha0 hO1 hO2 hv3 hv4 hv5 hvG hGo;go_upto_region 31 with (fail)
      go_cut [] from 154 to 169 (fun wx=>OwnI wx w.heap.size (some ⟨go,0,none⟩) k k (D'.set i (1+n+vG))∧Only (fun b=>b=go) w7 wx)
      case first=>
       obtain ⟨SC,hSCd⟩:∃S:World→Prop,S=fun w'=>(w'.cell? ⟨go,i,none⟩=some (.int .i64 (1+n))∧go<w'.heap.size)∧(w'.cell? ⟨b1,off1+i*2+1,none⟩=some (.int .i64 (G:Int))∧b1<w'.heap.size)∧(w'.cell? ⟨gf,G,none⟩=some (.int .i64 vG)∧gf<w'.heap.size):=⟨_,rfl⟩;have hSC:SC wc.drew:=by rw[hSCd];exact ⟨⟨y0,y0l⟩,⟨y1,y1l⟩,⟨y2,y2l⟩⟩
       have HSC:=Lib.hid (show SC wc.drew from hSC)
       have HSd:=Lib.hid hSCd;clear hSC hSCd;refine region_heldT 16 SC (by kernel_rfl) (by decide) ?_
       refine hwK 0 (.slice (some ⟨go,0,none⟩) k k) HSC.out ?_;simp only[Act.put,List.setIfInBounds_toArray];refine hwK 1 (.int .i64 (i:Int)) HSC.out ?_;simp only[Act.put];refine hwK 2 (.slice (some ⟨go,0,none⟩) k k) HSC.out ?_;simp only[Act.put];try simp only[List.getElem_toArray,List.getElem_cons_succ,List.getElem_cons_zero,List.setIfInBounds_toArray,List.set_cons_succ,List.set_cons_zero]
       refine hwK 3 (.int .i64 (i:Int)) HSC.out ?_;simp only[Act.put];refine hwK 4 (.pointer (some ⟨go,i,none⟩)) HSC.out ?_;simp only[Act.put];refine hwK 5 (.int .i64 (1+n)) HSC.out ?_;simp only[Act.put];try simp only[List.getElem_toArray,List.getElem_cons_succ,List.getElem_cons_zero,List.setIfInBounds_toArray,List.set_cons_succ,List.set_cons_zero]
       refine hwK 6 (.slice (some ⟨gf,0,none⟩) q q) HSC.out ?_;simp only[Act.put];refine hwK 7 (.slice (some ⟨b1,off1,none⟩) k gkc) HSC.out ?_;simp only[Act.put];refine hwK 8 (.int .i64 (i:Int)) HSC.out ?_;simp only[Act.put];try simp only[List.getElem_toArray,List.getElem_cons_succ,List.getElem_cons_zero,List.setIfInBounds_toArray,List.set_cons_succ,List.set_cons_zero]
       refine hwK 9 (.pointer (some ⟨b1,off1+i*2,none⟩)) HSC.out ?_;simp only[Act.put];refine hwK 10 (.pointer (some ⟨b1,off1+i*2+1,none⟩)) HSC.out ?_;simp only[Act.put];refine hwK 11 (.int .i64 (G:Int)) HSC.out ?_;simp only[Act.put];try simp only[List.getElem_toArray,List.getElem_cons_succ,List.getElem_cons_zero,List.setIfInBounds_toArray,List.set_cons_succ,List.set_cons_zero]
       refine hwK 12 (.pointer (some ⟨gf,G,none⟩)) HSC.out ?_;simp only[Act.put];refine hwK 13 (.int .i64 vG) HSC.out ?_;simp only[Act.put];refine hwK 14 (.int .i64 (1+n+vG)) HSC.out ?_;simp only[Act.put];try simp only[List.getElem_toArray,List.getElem_cons_succ,List.getElem_cons_zero,List.setIfInBounds_toArray,List.set_cons_succ,List.set_cons_zero]
       refine hwK 15 (.pointer (some ⟨go,i,none⟩)) HSC.out ?_;simp only[Act.put];try simp only[List.getElem_toArray,List.getElem_cons_succ,List.getElem_cons_zero,List.setIfInBounds_toArray,List.set_cons_succ,List.set_cons_zero]
       refine fun hInv=>⟨by kernel_rfl,?_⟩
       clear hInv;simp only[List.drop_succ_cons,List.drop_zero];clear HSC HSd;clear SC;go_wp2_with fail
       go_meet
       case rel=>
        exact ⟨HI31.out,HO31.out.drew⟩
      case rest=>
      rename World=>wd;obtain ⟨hId,hOd⟩:=hcut;have HId:=Lib.hid hId;have HOd:=Lib.hid hOd
      have z0:wd.cell? ⟨go,i,none⟩=some (.int .i64 (1+n+vG)):=by
       have h1:=OwnI.at_ hId i (by rw[List.length_set,HD'.out.1.len];exact hik)
       rw[List.getElem_set_self] at h1;exact h1
      have z0l:=(OwnI.room hId i (by rw[List.length_set,HD'.out.1.len];exact hik)).2
      clear hId hOd y0 y0f y0l y1 y1l y2 y2l j0 j1 jl;obtain ⟨v,hvd⟩:∃v,v=1+n+vG:=⟨_,rfl⟩;rw[←hvd] at z0 HId Hcall wr2;have hv1':v≠ -1:=by omega
      clear hvd;by_cases hbig:1099511627776<v
      ·have HF:=Lib.hid (show RecPost p.plain hs B gk gw q f K w (.returned (.int .i64 (-1))) wd from
        ⟨by rw[HD'.out.1.big S hg hr Hri.out (by rw[←Hys.out];exact Hkn.out) HN.out.symm (by rw[←Hys.out,Hcall.out];exact hbig)],K',HGf.out.2.1,HGf.out.2.2.1.only HOd.out (fun e=>HGf.out.2.2.2.1 e.symm) (fun e=>HGf.out.2.2.2.2.1 e.symm),HOr.out.more HOd.out (fun b hb e=>by have:=HGf.out.2.2.2.2.2;omega)⟩)
       go_wp2_with fail
       go_ret
       exact HF.out
      have HS2:=Lib.hid (show OutOk p.plain f k (D'.set i v)∧(true=false→D'.set i v=D∧∀a,i≤a→a<k→Stuck p.plain hs f D a)∧(true=true→nones (D'.set i v)<nones D) from ⟨by
       have h1:=HD'.out.1.put S hg hr Hri.out (by rw[←Hys.out];exact Hkn.out) HN.out.symm (by rw[←Hys.out,Hcall.out];exact hbig)
       rw[←Hys.out,Hcall.out] at h1;exact h1,fun h=>(by cases h),fun _=>by
       have h1:=nones_set (v:=v) Hx.out hv1';cases ag with
       |false=>obtain ⟨e,-⟩:=HD'.out.2.1 rfl;rw[←e];exact h1
       |true=>have h2:=HD'.out.2.2 rfl;omega⟩)
      go_wp2_with fail
      exact ⟨⟨i,true,_,rfl,rfl,by omega,HId.out,HS2,HOd.out⟩,by simp[intOf]⟩
     rw[if_neg h17] at hcall;have h17b:(op==17)=false:=by simpa using h17
     have Hcall:=Lib.hid (show 1+callC p.plain f (kcL p.plain) i+maxO D' ys=1+n from by rw[hcall, ←Hn.out];omega)
     have HId:=HIc;have HOd:=HOc;have z0:=y0;have z0l:=y0l;clear hcall y0 y0f y0l;obtain ⟨v,hvd⟩:∃v,v=1+n:=⟨_,rfl⟩;rw[←hvd] at z0 HId Hcall wr1 ⊢;have hv1':v≠ -1:=by omega
     clear hvd;by_cases hbig:1099511627776<v
     ·have HF:=Lib.hid (show RecPost p.plain hs B gk gw q f K w (.returned (.int .i64 (-1))) wc from
       ⟨by rw[HD'.out.1.big S hg hr Hri.out (by rw[←Hys.out];exact Hkn.out) HN.out.symm (by rw[←Hys.out,Hcall.out];exact hbig)],K',HGf.out.2.1,HGf.out.2.2.1.only HOd.out (fun e=>HGf.out.2.2.2.1 e.symm) (fun e=>HGf.out.2.2.2.2.1 e.symm),HOr.out.more HOd.out (fun b hb e=>by have:=HGf.out.2.2.2.2.2;omega)⟩)
      go_wp2_with fail
      go_ret
      exact HF.out
     have HS2:=Lib.hid (show OutOk p.plain f k (D'.set i v)∧(true=false→D'.set i v=D∧∀a,i≤a→a<k→Stuck p.plain hs f D a)∧(true=true→nones (D'.set i v)<nones D) from ⟨by
      have h1:=HD'.out.1.put S hg hr Hri.out (by rw[←Hys.out];exact Hkn.out) HN.out.symm (by rw[←Hys.out,Hcall.out];exact hbig)
      rw[←Hys.out,Hcall.out] at h1;exact h1,fun h=>(by cases h),fun _=>by
      have h1:=nones_set (v:=v) Hx.out hv1';cases ag with
      |false=>obtain ⟨e,-⟩:=HD'.out.2.1 rfl;rw[←e];exact h1
      |true=>have h2:=HD'.out.2.2 rfl;omega⟩)
     go_wp2_with fail
     exact ⟨⟨i,true,_,rfl,rfl,by omega,HId.out,HS2,HOd.out⟩,by simp[intOf]⟩
    have HS2:=Lib.hid (HSt.out (.inr (.inr ⟨u,by rw[←Hys.out];exact hu,hun⟩)))
    clear hu hun;go_wp2_with fail
    exact ⟨⟨i,ag,D',rfl,rfl,by omega,HIa.out,HS2,HOa.out⟩,by simp[intOf]⟩
   have hx2:(x== -1)=false:=by simpa using hx1
   have hx3:(x != -1)=true:=by simpa using hx1
   have HS2:=Lib.hid (HSt.out (.inl (by rw[Hx.out];intro e;injection e with e;exact hx1 e)))
   clear s0 s1 s2;go_wp2_with fail
   exact ⟨⟨i,ag,D',rfl,rfl,by omega,HIz.out,HS2,HOz.out⟩,by simp[intOf]⟩
end Go.Proofs.Ytcmpmhlcfalbhaa
