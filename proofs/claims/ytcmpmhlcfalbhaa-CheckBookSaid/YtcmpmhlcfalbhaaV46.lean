import Derived.Test.YtcmpmhlcfalbhaaV30
import Derived.Test.YtcmpmhlcfalbhaaV45
namespace Go.Proofs.Ytcmpmhlcfalbhaa
open Go.RowKit
set_option maxRecDepth 100000 in
set_option maxHeartbeats 4000000 in
theorem refCheck_any (p:PrgM) (w:World) (h:PrgAt w p):Calls Try.prog 23 #[p.val] w fun e w'=>e= .returned (.int .i64 (checkL p.plain))∧Below w.heap.size w w':=by
 obtain ⟨mem,AD,cD,data,AF,cF,fs⟩:=p;have H:=Lib.hid h;have hdl:data.length≤140737488351232:=h.dlen;have hfl:fs.length≤2932031007402:=h.flen;clear h;obtain ⟨R,hR⟩:∃R,R=checkL (PrgM.plain ⟨mem,AD,cD,data,AF,cF,fs⟩):=⟨_,rfl⟩;rw[←hR];unfold checkL at hR;cases hbh:badH (PrgM.plain ⟨mem,AD,cD,data,AF,cF,fs⟩) with
 |true=>
  rw[if_pos hbh] at hR;have HR:=Lib.hid hR;have hc:=badH_cases hbh;clear hR hbh;simp only[PrgM.plain,List.length_map] at hc;rcases hc with h1|⟨h1,h2⟩|⟨h1,h2,h3⟩|⟨h1,h2,h3,h4⟩|⟨h1,h2,h3,h4,h5⟩
  all_goals
   go_enter Try.func23,Try.ntmps23
   go_wp2_with fail
   go_ret
   exact ⟨by rw[HR.out];rfl,(Below.refl _ _).alloc (Nat.le_refl _) _⟩
 |false=>
  rw[if_neg (by rw[hbh];decide)] at hR
  have hc:=badH_not hbh;clear hbh;simp only[PrgM.plain,List.length_map] at hc;obtain ⟨h1,h2,h3,h4,h5⟩:=hc;have HR:=Lib.hid (show R=checkF ((fs.drop 0).map FunM.plain) from hR)
  clear hR;go_enter Try.func23,Try.ntmps23
  go_wp2_with fail
  obtain ⟨w1,hw1⟩:∃w1,w1=w.alloc (.cells #[.int .i64 mem,.slice AD data.length cD,.slice AF fs.length cF] 26):=⟨_,rfl⟩;rw[←hw1];have hb1:Below w.heap.size w w1:=by rw[hw1];exact (Below.refl _ _).alloc (Nat.le_refl _) _
  have hX1:Blk w1 w.heap.size 26 #[.int .i64 mem,.slice AD data.length cD,.slice AF fs.length cF]:=by rw[hw1];exact Blk.new _ _ _
  have hz1:=hX1.lt;have Hb1:=Lib.hid hb1;have HX1:=Lib.hid hX1;clear hw1 hb1 hX1;go_loopw [3] (fun i wr=>∃k:Nat,k≤fs.length∧i= .int .i64 k∧Hid (R=checkF ((fs.drop k).map FunM.plain))∧Below w1.heap.size w1 wr) (fun i _=>fs.length-(intOf i).toNat)
  case atStart=>exact ⟨0,Nat.zero_le _,rfl,HR,Below.refl _ _⟩
  rename World=>w2;obtain ⟨k,hk,rfl,hRk,hB⟩:=hrel;have hz2:=hB.size;have HB2:=Lib.hid (Hb1.out.trans (hB.mono (by omega)))
  have hX2:=HX1.out.below hB hz1;have x2:w2.cell? ⟨w.heap.size,2,none⟩=some (.slice AF fs.length cF):=hX2.cell 2;have hxl2:=hX2.lt;have HB12:=Lib.hid hB;clear hB hX2;by_cases hlt:k<fs.length
  ·have g2:(k:Int)<(fs.length:Int):=by omega
   have hP2:=H.out.below HB2.out;obtain ⟨b,off,hA,hb,hc⟩:=hP2.rv.at_ (by rw[funCells_len];dsimp only;omega)
   dsimp only at hA;subst hA;obtain ⟨q0,q1,q2,q3⟩:=fun_cells hc k hlt;have hF:=hP2.funs _ (List.getElem_mem hlt);have hdr:fs.drop k=fs[k]::fs.drop (k+1):=List.drop_eq_getElem_cons hlt;rw[hdr,List.map_cons] at hRk;dsimp only at q0 q1 q2 q3;obtain ⟨f,hf⟩:∃f:FunM,f=fs[k]:=⟨_,rfl⟩;rw[←hf] at q0 q1 q2 q3 hF hRk;obtain ⟨fa,fl,fr,FA,fc,fcode⟩:=f;dsimp only at q0 q1 q2 q3;have hcl:fcode.length≤8796093021952:=hF.len;have HF:=Lib.hid hF;have hRk2:=hRk.out;unfold checkF at hRk2;clear hF hP2 hc hdr hf hRk;cases hbf:badF (FunM.plain ⟨fa,fl,fr,FA,fc,fcode⟩) with
   |true=>
    rw[if_pos hbf] at hRk2;have HRk:=Lib.hid hRk2;have hcs:=badF_cases hbf;clear hRk2 hbf;simp only[FunM.plain] at hcs;rcases hcs with f1|⟨f1,f2⟩|⟨f1,f2,f3⟩|⟨f1,f2,f3,f4⟩|⟨f1,f2,f3,f4,f5⟩|⟨f1,f2,f3,f4,f5,f6⟩|⟨f1,f2,f3,f4,f5,f6,f7⟩|⟨f1,f2,f3,f4,f5,f6,f7,f8⟩
    all_goals
     go_wp2_with fail
     go_ret
     exact ⟨by rw[HRk.out];rfl,HB2.out.alloc (by omega) _⟩
   |false=>
    rw[if_neg (by rw[hbf];decide)] at hRk2
    have hcs:=badF_not hbf;simp only[FunM.plain] at hcs;obtain ⟨f1,f2,f3,f4,f5,f6,f7,f8⟩:=hcs;have HRk:=Lib.hid hRk2;clear hRk2 hbf;go_wp2_with fail
    obtain ⟨w3,hw3⟩:∃w3,w3=w2.alloc (.cells #[.int .i64 fa,.int .i64 fl,.int .i64 fr,.slice FA fcode.length fc] 43):=⟨_,rfl⟩;rw[←hw3];have hb23:Below w2.heap.size w2 w3:=by rw[hw3];exact (Below.refl _ _).alloc (Nat.le_refl _) _
    have henc:=refEncode_any FA fc fcode w3 (HF.out.rv.below hb23) HF.out.ok (by unfold maxLen;omega)
    obtain ⟨ys,er,hen⟩:∃ys er,encL fcode=(ys,er):=⟨_,_,rfl⟩;rw[hen] at henc
    have HRk:Hid (R=if er=0 then checkF ((fs.drop (k+1)).map FunM.plain) else er):=Lib.hid (by
     have h:=HRk.out;rw[show (FunM.plain ⟨fa,fl,fr,FA,fc,fcode⟩).code=fcode from rfl] at h
     simp only[hen] at h;exact h)
    have Henc:=Lib.hid henc;have hz23:=hb23.size;have HB3:=Lib.hid (HB12.out.trans (hb23.mono hz2));clear hw3 hb23 henc hen q0 q1 q2 q3 HF;refine Henc.out.mono ?_;intro e w4 hpost;obtain ⟨A4,c4,rfl,hown4,hb4⟩:=hpost;have HB4:=Lib.hid (HB3.out.trans (hb4.mono HB3.out.size));clear hown4 hb4 Henc;dsimp only at*;by_cases he:er=0
    ·have HRn:Hid (R=checkF ((fs.drop (k+1)).map FunM.plain)):=Lib.hid (by rw[HRk.out,if_pos he])
     subst he;clear HRk;go_wp2_with fail
     exact ⟨⟨k+1,by omega,by go_num,HRn,HB4.out⟩,by simp[intOf];omega⟩
    have HRn:Hid (R=er):=Lib.hid (by rw[HRk.out,if_neg he])
    clear HRk;go_wp2_with fail
    go_ret
    exact ⟨by rw[HRn.out];rfl,Hb1.out.trans (HB4.out.mono (by omega))⟩
  have hRt:R=0:=by rw[hRk.out,List.drop_eq_nil_of_le (by omega)];rfl
  have HRt:=Lib.hid hRt;clear hRt hRk;go_wp2_with fail
  go_ret
  exact ⟨by rw[HRt.out];rfl,HB2.out⟩
end Go.Proofs.Ytcmpmhlcfalbhaa
