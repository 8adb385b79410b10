import Derived.Test.YtcmpmhlcfalbhaaZ43
namespace Go.Proofs.Ytcmpmhlcfalbhaa
open Go.RowKit
set_option maxRecDepth 100000 in
set_option maxHeartbeats 4000000 in
theorem refSameP_any (p q:PrgM) (w:World) (hp:PrgAt w p) (hq:PrgAt w q):Calls Try.prog 46 #[p.val,q.val] w fun e w'=>e= .returned (.bool (sameP p.plain q.plain))∧Below w.heap.size w w':=by
 obtain ⟨R,hR⟩:∃R,R=sameP p.plain q.plain:=⟨_,rfl⟩;rw[←hR];obtain ⟨mem,AD,cD,data,AF,cF,fs⟩:=p;obtain ⟨mem',AD',cD',data',AF',cF',gs⟩:=q;have HR:=Lib.hid (show R=((mem==mem'&&data==data')&&sameFs (fs.map FunM.plain) (gs.map FunM.plain)) from hR)
 have Hp:=Lib.hid hp;have Hq:=Lib.hid hq;have hfl:fs.length≤2932031007402:=hp.flen;have hgl:gs.length≤2932031007402:=hq.flen;clear hR hp hq;go_enter Try.func46,Try.ntmps46
 go_wp2_with (refine wpList_at 9 rfl ?_;refine wp_stop ?_)
 refine ⟨?_⟩;obtain ⟨w1,hw1⟩:∃w1,w1=(w.alloc (.cells #[.int .i64 mem,.slice AD data.length cD,.slice AF fs.length cF] 26)).alloc (.cells #[.int .i64 mem',.slice AD' data'.length cD',.slice AF' gs.length cF'] 26):=⟨_,rfl⟩;rw[←hw1];have hb1:Below w.heap.size w w1:=by rw[hw1];exact ((Below.refl _ _).alloc (Nat.le_refl _) _).alloc (by simp) _
 have hX1:Blk w1 w.heap.size 26 #[.int .i64 mem,.slice AD data.length cD,.slice AF fs.length cF]:=by rw[hw1];exact (Blk.new w _ _).alloc _
 have hY1:Blk w1 (w.heap.size+1) 26 #[.int .i64 mem',.slice AD' data'.length cD',.slice AF' gs.length cF']:=by
  rw[hw1];have h:=Blk.new (w.alloc (.cells #[.int .i64 mem,.slice AD data.length cD,.slice AF fs.length cF] 26)) 26 #[.int .i64 mem',.slice AD' data'.length cD',.slice AF' gs.length cF'];rw[World.size_alloc] at h;exact h
 have x0:w1.cell? ⟨w.heap.size,0,none⟩=some (.int .i64 mem):=hX1.cell 0;have x1:w1.cell? ⟨w.heap.size,1,none⟩=some (.slice AD data.length cD):=hX1.cell 1;have x2:w1.cell? ⟨w.heap.size,2,none⟩=some (.slice AF fs.length cF):=hX1.cell 2;have y0:w1.cell? ⟨w.heap.size+1,0,none⟩=some (.int .i64 mem'):=hY1.cell 0;have y1:w1.cell? ⟨w.heap.size+1,1,none⟩=some (.slice AD' data'.length cD'):=hY1.cell 1;have y2:w1.cell? ⟨w.heap.size+1,2,none⟩=some (.slice AF' gs.length cF'):=hY1.cell 2;have hxl:=hX1.lt;have hyl:=hY1.lt;have Hb1:=Lib.hid hb1;have HX1:=Lib.hid hX1;have HY1:=Lib.hid hY1;have Hd:=Lib.hid (Hp.out.data.below hb1).rv;have Hd':=Lib.hid (Hq.out.data.below hb1).rv;dsimp only at Hd Hd';clear hw1 hb1 hX1 hY1;by_cases hm:mem=mem'
 case neg=>
  have hm2:(mem==mem')=false:=by simpa using hm
  have HRn:Hid (R=false):=Lib.hid (by rw[HR.out,hm2];rfl)
  have hm3:(mem != mem')=true:=by rw[bne,hm2];rfl
  clear HR;go_wp2_with fail
  all_goals (try contradiction)
  go_ret
  exact ⟨by rw[HRn.out];rfl,Hb1.out⟩
 subst hm;rw[beq_self_eq_true,Bool.true_and] at HR;obtain ⟨de,hde⟩:∃de,(data==data')=de:=⟨_,rfl⟩;rw[hde] at HR;cases de with
 |false=>
  have HRn:Hid (R=false):=Lib.hid (by rw[HR.out];rfl)
  have hdn:(data != data')=true:=by rw[bne,hde];rfl
  have hdne: ¬ data=data':=by simpa using hde
  clear HR
  go_wp2_with (first
   |(refine wpList_at 17 rfl ?_;refine wpList_bytesStrG rfl (.tmp 16) (A:=AD) (c:=cD) (ys:=data) rfl rfl Hd.out Try.underlying23 Try.underlying5 Try.underlying9 ?_)
   |(refine wpList_at 20 rfl ?_;refine wpList_bytesStrG rfl (.tmp 19) (A:=AD') (c:=cD') (ys:=data') rfl rfl Hd'.out Try.underlying23 Try.underlying5 Try.underlying9 ?_))
  go_ret
  exact ⟨by rw[HRn.out];rfl,Hb1.out⟩
 |true=>
  have HR2:Hid (R=sameFs ((fs.drop 0).map FunM.plain) ((gs.drop 0).map FunM.plain)):=Lib.hid (by rw[HR.out];rfl)
  clear HR;by_cases hn:fs.length=gs.length
  case neg=>
   have HRn:Hid (R=false):=Lib.hid (by rw[HR2.out];exact sameFs_len _ _ (by simpa using hn))
   have g1:((fs.length:Int)==(gs.length:Int))=false:=by rw[beq_eq_false_iff_ne];omega
   clear HR2 hn
   go_wp2_with (first
    |(refine wpList_at 17 rfl ?_;refine wpList_bytesStrG rfl (.tmp 16) (A:=AD) (c:=cD) (ys:=data) rfl rfl Hd.out Try.underlying23 Try.underlying5 Try.underlying9 ?_)
    |(refine wpList_at 20 rfl ?_;refine wpList_bytesStrG rfl (.tmp 19) (A:=AD') (c:=cD') (ys:=data') rfl rfl Hd'.out Try.underlying23 Try.underlying5 Try.underlying9 ?_))
   go_ret
   exact ⟨by rw[HRn.out];rfl,Hb1.out⟩
  have Hn:=Lib.hid hn;rw[←hn] at y2 HY1;clear hn hgl
  go_wp2_with (first
   |(refine wpList_at 17 rfl ?_;refine wpList_bytesStrG rfl (.tmp 16) (A:=AD) (c:=cD) (ys:=data) rfl rfl Hd.out Try.underlying23 Try.underlying5 Try.underlying9 ?_)
   |(refine wpList_at 20 rfl ?_;refine wpList_bytesStrG rfl (.tmp 19) (A:=AD') (c:=cD') (ys:=data') rfl rfl Hd'.out Try.underlying23 Try.underlying5 Try.underlying9 ?_))
  clear x0 x1 x2 y0 y1 y2 hde;go_loopw [5] (fun i wr=>∃(k:Nat),k≤fs.length∧i= .int .i64 k∧Hid (R=sameFs ((fs.drop k).map FunM.plain) ((gs.drop k).map FunM.plain))∧Below w1.heap.size w1 wr) (fun i _=>fs.length-(intOf i).toNat)
  case atStart=>exact ⟨0,Nat.zero_le _,rfl,HR2,Below.refl _ _⟩
  rename World=>w2;obtain ⟨k,hk,rfl,hRk,hB⟩:=hrel;have hz2:=hB.size;have hX2:=HX1.out.below hB hxl;have hY2:=HY1.out.below hB hyl;have x2:w2.cell? ⟨w.heap.size,2,none⟩=some (.slice AF fs.length cF):=hX2.cell 2;have y2:w2.cell? ⟨w.heap.size+1,2,none⟩=some (.slice AF' fs.length cF'):=hY2.cell 2;have hxl2:=hX2.lt;have hyl2:=hY2.lt;have HBw:=Lib.hid (Hb1.out.trans (hB.mono Hb1.out.size));have HB:=Lib.hid hB;clear hB hX2 hY2;by_cases hlt:k<fs.length
  ·have g1:(k:Int)<(fs.length:Int):=by omega
   have hlt':k<gs.length:=by rw[←Hn.out];exact hlt
   obtain ⟨b,off,hA,hb,hc⟩:=(Hp.out.below HBw.out).rv.at_ (by rw[funCells_len];dsimp only;omega)
   obtain ⟨b',off',hA',hb',hc'⟩:=(Hq.out.below HBw.out).rv.at_ (by rw[funCells_len];dsimp only;omega)
   dsimp only at hA hA';subst hA hA';obtain ⟨p0,p1,p2,p3⟩:=fun_cells hc k hlt;obtain ⟨q0,q1,q2,q3⟩:=fun_cells hc' k hlt';have hF:=(Hp.out.funs _ (List.getElem_mem hlt)).below HBw.out;have hG:=(Hq.out.funs _ (List.getElem_mem hlt')).below HBw.out;have hdx:fs.drop k=fs[k]::fs.drop (k+1):=List.drop_eq_getElem_cons hlt;have hdy:gs.drop k=gs[k]::gs.drop (k+1):=List.drop_eq_getElem_cons hlt';rw[hdx,hdy,List.map_cons,List.map_cons] at hRk;dsimp only at p0 p1 p2 p3 q0 q1 q2 q3 hF hG;generalize fs[k]=f at*
   generalize gs[k]=g at*
   obtain ⟨fa,fl,fr,FA,fc,fcode⟩:=f;obtain ⟨ga,gl,gr,GA,gc,gcode⟩:=g;dsimp only at p0 p1 p2 p3 q0 q1 q2 q3;have hcl:fcode.length≤8796093021952:=hF.len;have hcl':gcode.length≤8796093021952:=hG.len;have HF:=Lib.hid hF;have HG:=Lib.hid hG;have HRs:Hid (R=(((fa==ga&&fl==gl&&fr==gr)&&sameB fcode gcode)&&sameFs ((fs.drop (k+1)).map FunM.plain) ((gs.drop (k+1)).map FunM.plain))):=Lib.hid hRk.out;obtain ⟨T,hT⟩:∃T,T=sameFs ((fs.drop (k+1)).map FunM.plain) ((gs.drop (k+1)).map FunM.plain):=⟨_,rfl⟩;rw[←hT] at HRs;have HT:=Lib.hid hT;clear hc hc' hdx hdy hF hG hRk hT
   have hcs:(fa==ga)=false∨(fa=ga∧(fl==gl)=false)∨(fa=ga∧fl=gl∧(fr==gr)=false)∨(fa=ga∧fl=gl∧fr=gr∧((fcode.length:Int)==(gcode.length:Int))=false)∨(fa=ga∧fl=gl∧fr=gr∧fcode.length=gcode.length):=by
    by_cases h1:fa=ga
    ·by_cases h2:fl=gl
     ·by_cases h3:fr=gr
      ·by_cases h4:fcode.length=gcode.length
       ·exact .inr (.inr (.inr (.inr ⟨h1,h2,h3,h4⟩)))
       exact .inr (.inr (.inr (.inl ⟨h1,h2,h3,by rw[beq_eq_false_iff_ne];omega⟩)))
      exact .inr (.inr (.inl ⟨h1,h2,by simpa using h3⟩))
     exact .inr (.inl ⟨h1,by simpa using h2⟩)
    exact .inl (by simpa using h1)
   rcases hcs with h1|⟨rfl,h1⟩|⟨rfl,rfl,h1⟩|⟨rfl,rfl,rfl,h1⟩|⟨rfl,rfl,rfl,h1⟩
   case inr.inr.inr.inr=>
    have HRs2:Hid (R=(sameB (fcode.drop 0) (gcode.drop 0)&&T)):=Lib.hid (by rw[HRs.out];simp)
    have H1:=Lib.hid h1;rw[←h1] at q3;clear HRs h1 hcl';go_wp2_with fail
    obtain ⟨w3,hw3⟩:∃w3,w3=(w2.alloc (.cells #[.int .i64 fa,.int .i64 fl,.int .i64 fr,.slice FA fcode.length fc] 43)).alloc (.cells #[.int .i64 fa,.int .i64 fl,.int .i64 fr,.slice GA fcode.length gc] 43):=⟨_,rfl⟩;rw[←hw3];have hb3:Below w2.heap.size w2 w3:=by rw[hw3];exact ((Below.refl _ _).alloc (Nat.le_refl _) _).alloc (by simp) _
    have hF3:Blk w3 w2.heap.size 43 #[.int .i64 fa,.int .i64 fl,.int .i64 fr,.slice FA fcode.length fc]:=by rw[hw3];exact (Blk.new w2 _ _).alloc _
    have hG3:Blk w3 (w2.heap.size+1) 43 #[.int .i64 fa,.int .i64 fl,.int .i64 fr,.slice GA fcode.length gc]:=by
     rw[hw3];have h:=Blk.new (w2.alloc (.cells #[.int .i64 fa,.int .i64 fl,.int .i64 fr,.slice FA fcode.length fc] 43)) 43 #[.int .i64 fa,.int .i64 fl,.int .i64 fr,.slice GA fcode.length gc];rw[World.size_alloc] at h;exact h
    have u3:w3.cell? ⟨w2.heap.size,3,none⟩=some (.slice FA fcode.length fc):=hF3.cell 3;have v3:w3.cell? ⟨w2.heap.size+1,3,none⟩=some (.slice GA fcode.length gc):=hG3.cell 3;have hul:=hF3.lt;have hvl:=hG3.lt;have HB3:=Lib.hid (HB.out.trans (hb3.mono hz2));have Hr:=Lib.hid (HF.out.rv.below hb3);have Hr':=Lib.hid (HG.out.rv.below hb3);dsimp only at Hr Hr';clear hw3 hb3 hF3 hG3 p0 p1 p2 p3 q0 q1 q2 q3;go_loopw [8] (fun i wr=>∃(j m:Nat),j≤fcode.length∧i= .int .i64 j∧Hid (R=(sameB (fcode.drop j) (gcode.drop j)&&T))∧wr=w3.drewN m) (fun i _=>fcode.length-(intOf i).toNat)
    case atStart=>exact ⟨0,0,Nat.zero_le _,rfl,HRs2,rfl⟩
    rename World=>wr;obtain ⟨j,m,hj,rfl,hRj,rfl⟩:=hrel;by_cases hlj:j<fcode.length
    ·have g2:(j:Int)<(fcode.length:Int):=by omega
     have hlj':j<gcode.length:=by rw[←H1.out];exact hlj
     obtain ⟨bc,oc,rfl,hbc,hcc⟩:=Hr.out.at_ (by rw[insCells_len];omega)
     obtain ⟨bc',oc',rfl,hbc',hcc'⟩:=Hr'.out.at_ (by rw[insCells_len];omega)
     have r0:=hcc _ _ (insCells_get fcode j 0 hlj (by omega))
     have r1:=hcc _ _ (insCells_get fcode j 1 hlj (by omega))
     have s0:=hcc' _ _ (insCells_get gcode j 0 hlj' (by omega))
     have s1:=hcc' _ _ (insCells_get gcode j 1 hlj' (by omega))
     have hdx:fcode.drop j=fcode[j]::fcode.drop (j+1):=List.drop_eq_getElem_cons hlj;have hdy:gcode.drop j=gcode[j]::gcode.drop (j+1):=List.drop_eq_getElem_cons hlj';rw[hdx,hdy] at hRj;generalize fcode[j]=x at*
     generalize gcode[j]=y at*
     rw[←Nat.add_assoc] at r1 s1;replace r0:w3.cell? ⟨bc,oc+j*2,none⟩=some (.int .i64 x.op):=r0
     replace r1:w3.cell? ⟨bc,oc+j*2+1,none⟩=some (.int .i64 x.a):=r1
     replace s0:w3.cell? ⟨bc',oc'+j*2,none⟩=some (.int .i64 y.op):=s0
     replace s1:w3.cell? ⟨bc',oc'+j*2+1,none⟩=some (.int .i64 y.a):=s1
     clear hcc hcc' hdx hdy;by_cases h1:x.op=y.op∧x.a=y.a
     ·have hRn:Hid (R=(sameB (fcode.drop (j+1)) (gcode.drop (j+1))&&T)):=by
       have e:=hRj.out;unfold sameB at e;rw[h1.1,h1.2] at e;exact Lib.hid (by simpa using e)
      obtain ⟨e1,e2⟩:=h1;rw[←e1] at s0;rw[←e2] at s1;clear e1 e2 hRj;go_wp2_with fail
      go_quiet (fail)
      go_wp2_with fail
      exact ⟨⟨j+1,_,by omega,by go_num,hRn,rfl⟩,by simp[intOf];omega⟩
     have hRf:R=false:=by
      rw[hRj.out];unfold sameB
      have:(x.op==y.op&&x.a==y.a)=false:=by
       cases hq:(x.op==y.op&&x.a==y.a) with
       |false=>rfl
       |true=>simp only[Bool.and_eq_true,beq_iff_eq] at hq;exact absurd hq h1
      rw[this];rfl
     have HRf:=Lib.hid hRf;clear hRf hRj;have HB4:=Lib.hid (Hb1.out.trans (HB3.out.mono Hb1.out.size));by_cases h2:x.op=y.op
     ·have h3:(x.a==y.a)=false:=by
       cases hq:(x.a==y.a) with
       |false=>rfl
       |true=>exact absurd ⟨h2,by simpa using hq⟩ h1
      rw[←h2] at s0;clear h1 h2;go_wp2_with fail
      go_quiet (fail)
      go_wp2_with fail
      go_ret
      exact ⟨by rw[HRf.out];rfl,below_drewN (below_drewN HB4.out _) _⟩
     have h3:(x.op==y.op)=false:=by simpa using h2
     clear h1 h2;go_wp2_with fail
     go_quiet (fail)
     go_wp2_with fail
     go_ret
     exact ⟨by rw[HRf.out];rfl,below_drewN (below_drewN HB4.out _) _⟩
    have HRn:Hid (R=sameFs ((fs.drop (k+1)).map FunM.plain) ((gs.drop (k+1)).map FunM.plain)):=Lib.hid (by
     rw[hRj.out,List.drop_eq_nil_of_le (by omega),List.drop_eq_nil_of_le (by rw[←H1.out];omega),HT.out]
     rfl)
    have HB4:=Lib.hid (below_drewN HB3.out m);clear hRj;go_wp2_with fail
    exact ⟨⟨k+1,by omega,by go_num,HRn,HB4.out⟩,by simp[intOf];omega⟩
   all_goals
    have HRn:Hid (R=false):=Lib.hid (by
     rw[HRs.out]
     first
      |(rw[h1];rfl)
      |(rw[h1];simp)
      |(rw[sameB_len fcode gcode (fun e=>by rw[e] at h1;simp at h1)];simp))
    have HB4:=Lib.hid (HBw.out)
    have hne1:=beq_eq_false_iff_ne.1 h1
    have hne: ¬ _=_:=hne1
    clear HRs hne1
    go_wp2_with fail
    go_ret
    exact ⟨by rw[HRn.out];rfl,(HB4.out.alloc HB4.out.size _).alloc (by have:=HB4.out.size;simp;omega) _⟩
  have HRt:Hid (R=true):=Lib.hid (by rw[hRk.out,List.drop_eq_nil_of_le (by omega),List.drop_eq_nil_of_le (by rw[←Hn.out];omega)];rfl)
  clear hRk;go_wp2_with fail
  go_ret
  exact ⟨by rw[HRt.out];rfl,HBw.out⟩
end Go.Proofs.Ytcmpmhlcfalbhaa
