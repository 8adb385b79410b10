import Derived.Test.YtcmpmhlcfalbhaaV11
import Derived.Test.YtcmpmhlcfalbhaaV33
namespace Go.Proofs.Ytcmpmhlcfalbhaa
section
open Go.RowKit
set_option maxRecDepth 100000 in
set_option maxHeartbeats 4000000 in
theorem refCost_any {p:PrgM} {hs:List (List Int)} {w0:World} {AH AT:Option Addr} {cH cT:Nat} {vL vV ce co:Value} {gs gc gk gi gw F B:Nat} (hp:PrgAt w0 p) (hg:Good p.plain) (hF:p.fs.length=F) (hS:SumsSep w0 gs gc gk gi gw)
  (S:Strt p.plain hs) (hR:HRows w0 AH hs):
  ∀(k f:Nat) (K:List Bool) (w:World),rk (cg p.plain hs) p.plain.fs.length f<k→f<F→Reach (cg p.plain hs) 0 f→SumsM w0 w p F AH cH AT cT vL vV ce co gs gc gk gi gw→DoneM w B gk gw F K (vC p.plain)→
   Calls Try.prog 53 #[.pointer (some ⟨gs,0,none⟩),.int .i64 (f:Int)] w (CellsPost p.plain hs B gk gw F f K (vC p.plain) w):=by
 intro k
 induction k with
 |zero=>intro f K w hk;omega
 |succ k ih=>
  intro f K w hk hf hr hQ hM;have hpF:p.plain.fs.length=F:=by rw[←hF];simp[PrgM.plain]
  obtain ⟨C,hC,hK,hCl,hKl,hCK⟩:=hM.out;obtain ⟨v,hv⟩:∃v,K[f]?=some v:=⟨_,List.getElem?_eq_getElem (by omega)⟩
  have gfF:(f:Int)<(F:Int):=by omega
  have s10:w.cell? ⟨gs,10,none⟩=some (.slice (some ⟨gk,0,none⟩) F F):=hQ.blk.cell 10;have s12:w.cell? ⟨gs,12,none⟩=some (.slice (some ⟨gw,0,none⟩) F F):=hQ.blk.cell 12;have sl:=hQ.blk.lt;have k0:=OwnL.at_ hK f (by omega)
  rw[(List.getElem?_eq_some_iff.1 hv).2] at k0;have k0l:=(OwnL.room hK f (by omega)).2
  have HQ:=Lib.hid hQ;have HM:=Lib.hid hM;have Hv:=Lib.hid hv;cases v with
  |true=>
   have hcf:=hCK f hv;have k1:=OwnI.at_ hC f (by omega)
   rw[(List.getElem?_eq_some_iff.1 hcf).2] at k1;have k1l:=(OwnI.room hC f (by omega)).2
   have HF:=Lib.hid (show CellsPost p.plain hs B gk gw F f K (vC p.plain) w (.returned (.int .i64 (vC p.plain f))) w from ⟨rfl,K,KP.was hv,hM,Only.refl _ _⟩)
   clear hQ hM hv hC hK hCK hcf;generalize vC p.plain f=x at*
   go_enter Try.func53,Try.ntmps53
   go_wp2_with fail
   go_ret
   exact HF.out
  |false=>
   have HK:=Lib.hid (reckoned_any (B:=B) hp hg hF hS S hR f K w.drew hf hr (hQ.only (Only.refl (fun _=>False) w).drew (fun _ e=>e.elim) (fun e=>e)) (hM.only (Only.refl (fun _=>False) w).drew (fun e=>e) (fun e=>e))
    (fun u hu K w hQ hM=>ih u K w (by have:=rk_lt (show f<p.plain.fs.length by omega) hu (S.acyc f hr);omega) (by have:=cg_lt hg hu;omega) (hr.trans (.one hu)) hQ hM))
   clear hQ hM hv hC hK hCK;go_enter Try.func53,Try.ntmps53
   go_upto_region 2 with (fail)
   go_cut [] from 13 to 21 (fun wx=>∃(C2:List Int) (K2:List Bool),OwnI wx B (some ⟨gk,0,none⟩) F F (C2.set f (vC p.plain f))∧OwnL wx B (some ⟨gw,0,none⟩) F F K2∧(C2.length=F∧K2.length=F∧∀i:Nat,K2[i]?=some true→C2[i]?=some (vC p.plain i))∧KI (cg p.plain hs) f K K2∧Only (fun b=>b=gk∨b=gw) w wx)
   case first=>
    obtain ⟨SC,hSCd⟩:∃S:World→Prop,S=fun w'=>w'.cell? ⟨gs,10,none⟩=some (.slice (some ⟨gk,0,none⟩) F F)∧gs<w'.heap.size:=⟨_,rfl⟩;have hSC:SC w.drew:=by rw[hSCd];exact ⟨s10,sl⟩
    have HSC:=Lib.hid (show SC w.drew from hSC)
    have HSd:=Lib.hid hSCd;clear hSC hSCd;refine region_heldT 10 SC (by kernel_rfl) (by decide) ?_
    refine hwA 0 (.pointer (some ⟨gs,0,none⟩)) HSC.out ?_;simp only[Act.put,List.setIfInBounds_toArray];refine hwA 1 (.pointer (some ⟨gs,0,none⟩)) HSC.out ?_;simp only[Act.put];refine hwA 2 (.pointer (some ⟨gs,10,none⟩)) HSC.out ?_;simp only[Act.put];try simp only[List.getElem_toArray,List.getElem_cons_succ,List.getElem_cons_zero,List.setIfInBounds_toArray,List.set_cons_succ,List.set_cons_zero]
    refine hwA 3 (.slice (some ⟨gk,0,none⟩) F F) HSC.out ?_;simp only[Act.put];refine hwA 4 (.int .i64 (f:Int)) HSC.out ?_;simp only[Act.put];refine hwA 5 (.pointer (some ⟨gs,0,none⟩)) HSC.out ?_;simp only[Act.put];try simp only[List.getElem_toArray,List.getElem_cons_succ,List.getElem_cons_zero,List.setIfInBounds_toArray,List.set_cons_succ,List.set_cons_zero]
    refine hwA 6 (.int .i64 (f:Int)) HSC.out ?_;simp only[Act.put];try simp only[List.getElem_toArray,List.getElem_cons_succ,List.getElem_cons_zero,List.setIfInBounds_toArray,List.set_cons_succ,List.set_cons_zero]
    refine hwO 7 fun K0 hK0=>?_;go_simp;refine HK.out.mono ?_;rintro e w2 ⟨rfl,K2,hP2,hM2,hO2⟩;have HP2:=Lib.hid hP2;have HM2:=Lib.hid hM2;have HO2:=Lib.hid (show Only (fun b=>b=gk∨b=gw) w w2 from ((Only.refl _ w).drew).trans hO2)
    have hSC2:SC w2:=by
     have h:=HSC.out;rw[HSd.out] at h ⊢;obtain ⟨e0,l0⟩:=h;have hz:=hO2.size;exact ⟨(hO2.cell l0 (fun e=>e.elim hS.sk hS.sw)).trans e0,by omega⟩
    refine hK0.out _ _ hSC2 (fun hHeld=>?_);clear hK0 K0 hHeld hP2 hM2 hO2;refine hwA 8 (.pointer (some ⟨gk,f,none⟩)) hSC2 ?_;simp only[Act.put];obtain ⟨C2,hC2,hK2,hCl2,hKl2,hCK2⟩:=HM2.out.out;have c2:=OwnI.at_ hC2 f (by omega)
    obtain ⟨cf2,cl2⟩:=OwnI.room hC2 f (by omega)
    generalize C2[f]'(by omega)=y2 at c2
    have HQ2:=Lib.hid (show OwnI (w2.setCell ⟨gk,f,none⟩ (.int .i64 (vC p.plain f))) B (some ⟨gk,0,none⟩) F F (C2.set f (vC p.plain f))∧OwnL (w2.setCell ⟨gk,f,none⟩ (.int .i64 (vC p.plain f))) B (some ⟨gw,0,none⟩) F F K2∧Only (fun b=>b=gk∨b=gw) w (w2.setCell ⟨gk,f,none⟩ (.int .i64 (vC p.plain f))) from
     ⟨OwnI.put hC2 f _,Own.fars hK2 (fun e=>by injection e with e;exact hS.kw e.symm) _,HO2.out.setCell (p:=⟨gk,f,none⟩) (.inl (.inl rfl)) _⟩)
    have HCK:=Lib.hid (show C2.length=F∧K2.length=F∧∀i:Nat,K2[i]?=some true→C2[i]?=some (vC p.plain i) from ⟨hCl2,hKl2,hCK2⟩)
    clear hC2 hK2 hCl2 hKl2 hCK2;refine hwO 9 fun K0 hK0=>?_;go_simp
    have hSC3:SC (w2.setCell ⟨gk,f,none⟩ (.int .i64 (vC p.plain f))):=by
     rw[HSd.out] at hSC2 ⊢;obtain ⟨e0,l0⟩:=hSC2;have hO:Only (fun b=>b=gk) w2 (w2.setCell ⟨gk,f,none⟩ (.int .i64 (vC p.plain f))):=(Only.refl (fun b=>b=gk) w2).setCell (p:=⟨gk,f,none⟩) (.inl rfl) _;have hz:=hO.size;exact ⟨(hO.cell l0 hS.sk).trans e0,by omega⟩
    refine hK0.out _ _ hSC3 (fun hHeld=>?_);clear hK0 K0 hHeld hSC2 hSC3;refine fun _=>⟨by kernel_rfl,?_⟩
    simp only[List.drop_succ_cons,List.drop_zero];clear HSC HSd;clear SC;go_wp2_with fail
    go_meet;case rel=>exact ⟨C2,K2,HQ2.out.1,HQ2.out.2.1,HCK.out,HP2.out,HQ2.out.2.2⟩
   case rest=>
   rename World=>w3;obtain ⟨C2,K2,hC3,hK3,⟨hCl2,hKl2,hCK2⟩,hKI,hO3⟩:=hcut;clear s10 s12 sl k0 k0l HK;have hQ3:=HQ.out.only hO3 (fun k e=>e.elim (fun e=>by rw[e];exact hS.lk) (fun e=>by rw[e];exact hS.lw)) (fun e=>e.elim hS.sk hS.sw)
   have s10:w3.cell? ⟨gs,10,none⟩=some (.slice (some ⟨gk,0,none⟩) F F):=hQ3.blk.cell 10;have s12:w3.cell? ⟨gs,12,none⟩=some (.slice (some ⟨gw,0,none⟩) F F):=hQ3.blk.cell 12;have sl:=hQ3.blk.lt;have c1:=OwnL.at_ hK3 f (by omega)
   obtain ⟨cf1,cl1⟩:=OwnL.room hK3 f (by omega)
   generalize K2[f]'(by omega)=kv at c1
   have c3:w3.cell? ⟨gk,f,none⟩=some (.int .i64 (vC p.plain f)):=by
    have h1:=OwnI.at_ hC3 f (by rw[List.length_set,hCl2];exact hf)
    rw[List.getElem_set_self] at h1;exact h1
   have cl3:=(OwnI.room hC3 f (by rw[List.length_set,hCl2];exact hf)).2
   have HF:=Lib.hid (show CellsPost p.plain hs B gk gw F f K (vC p.plain) w (.returned (.int .i64 (vC p.plain f))) (w3.setCell ⟨gw,f,none⟩ (.bool true)) from
    ⟨rfl,K2.set f true,hKI.fin (by omega),⟨C2.set f (vC p.plain f),Own.fars hC3 (fun e=>by injection e with e;exact hS.kw e) _,OwnL.put hK3 f true,by rw[List.length_set];exact hCl2,by rw[List.length_set];exact hKl2,fun i hi=>by
     by_cases e:f=i
     ·subst e;rw[List.getElem?_set_self (by rw[hCl2];exact hf)]
     rw[List.getElem?_set_ne e] at hi ⊢;exact hCK2 i hi⟩,hO3.setCell (p:=⟨gw,f,none⟩) (.inl (.inr rfl)) _⟩)
   have Hsw:=hS.sw;have Hkw:=hS.kw;clear hC3 hK3 hCK2 hKI hO3 hQ3;generalize vC p.plain f=x at*
   go_wp2_with fail
   go_ret
   exact HF.out
end
section
open Go.RowKit
theorem own_blkI {w:World} {g n B:Nat} (h:Blk w g 3 (Array.replicate n (iv 0))) (hB:B≤g) (hn:n≤1000000):OwnI w B (some ⟨g,0,none⟩) n n (List.replicate n 0):=
 ⟨by simp,.inr ⟨g,n,_,rfl,hB,h,Nat.le_refl _,by unfold maxLen;omega,by simp,by simp⟩⟩
theorem own_blkL {w:World} {g n B:Nat} (h:Blk w g 4 (Array.replicate n (bo false))) (hB:B≤g) (hn:n≤1000000):OwnL w B (some ⟨g,0,none⟩) n n (List.replicate n false):=
 ⟨by simp,.inr ⟨g,n,_,rfl,hB,h,Nat.le_refl _,by unfold maxLen;omega,by simp,by simp⟩⟩
structure NewSums (w0 w:World) (p:PrgM) (F:Nat) (AH:Option Addr) (cH:Nat) (AT:Option Addr) (cT:Nat) (vL vV ce co:Value) (gs gc gk gi gw:Nat):Prop where
 sep:SumsSep w0 gs gc gk gi gw
 sums:SumsM w0 w p F AH cH AT cT vL vV ce co gs gc gk gi gw
 cells:∀c,DoneM w w0.heap.size gc gi F (List.replicate F false) c
 cost:∀c,DoneM w w0.heap.size gk gw F (List.replicate F false) c
theorem NewSums.mk' {w0 w:World} {p:PrgM} {F:Nat} {AH:Option Addr} {cH:Nat} {AT:Option Addr} {cT:Nat} {vL vV ce co:Value} {gs gc gk gi gw:Nat} (hF:F≤1000000) (hb:Below w0.heap.size w0 w) (sep:SumsSep w0 gs gc gk gi gw) (hs:Blk w gs 99 #[.int .i64 p.mem,.slice p.AD p.data.length p.cD,.slice p.AF F p.cF,.slice AH F cH,.slice AT F cT,vL,vV,ce,co,.slice (some ⟨gc,0,none⟩) F F,.slice (some ⟨gk,0,none⟩) F F,.slice (some ⟨gi,0,none⟩) F F,.slice (some ⟨gw,0,none⟩) F F])
  (h1:Blk w gc 3 (Array.replicate F (iv 0))) (h2:Blk w gk 3 (Array.replicate F (iv 0))) (h3:Blk w gi 4 (Array.replicate F (bo false))) (h4:Blk w gw 4 (Array.replicate F (bo false))):NewSums w0 w p F AH cH AT cT vL vV ce co gs gc gk gi gw:=
 ⟨sep,⟨hb,hs⟩,fun c=>⟨_,own_blkI h1 sep.lc hF,own_blkL h3 sep.li hF,by simp,by simp,fun i hi=>by have:=List.eq_of_mem_replicate (List.mem_of_getElem? hi);cases this⟩,fun c=>⟨_,own_blkI h2 sep.lk hF,own_blkL h4 sep.lw hF,by simp,by simp,fun i hi=>by have:=List.eq_of_mem_replicate (List.mem_of_getElem? hi);cases this⟩⟩
theorem below_set2 {w0 w:World} {B g i:Nat} {u:Value} {t:TypeId} {cs:Array Value} (h:Below B w0 w) (h0:Blk w0 g t cs) (h1:Blk w g t cs):Below B (w0.setCell ⟨g,i,none⟩ u) (w.setCell ⟨g,i,none⟩ u):=by
 refine ⟨h.os,h.tape,h.output,by rw[World.size_setCell,World.size_setCell];exact h.size,fun k hk=>?_⟩
 by_cases e:k=g
 ·subst e;exact (h1.set_ i u).trans (h0.set_ i u).symm
 rw[Below.heap_setCell w ⟨g,i,none⟩ u k e,Below.heap_setCell w0 ⟨g,i,none⟩ u k e];exact h.block k hk
end
end Go.Proofs.Ytcmpmhlcfalbhaa
