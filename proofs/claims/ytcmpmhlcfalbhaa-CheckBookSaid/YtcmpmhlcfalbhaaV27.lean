import Derived.Test.YtcmpmhlcfalbhaaV11
import Derived.Test.YtcmpmhlcfalbhaaV21
import Derived.Deep.LoopGhost
namespace Go.Proofs.Ytcmpmhlcfalbhaa
open Go.RowKit
def nxN (P:Prg) (f:Nat) (h:List Int) (v:Nat):List Nat:=(nxI P f h v).map Int.toNat
open Classical in
noncomputable def loopsL (nx:Nat→List Nat) (n:Nat):List Int:=((List.range n).filter fun v=>decide (Reach nx 0 v∧Cyc nx v)).map fun (v:Nat)=>(v:Int)
open Classical in
theorem loopsL_eq {nx:Nat→List Nat} {n:Nat} {g:Nat→Bool} (h:∀u,g u=true↔Reach nx 0 u∧Cyc nx u):((List.range n).filter g).map (fun (v:Nat)=>(v:Int))=loopsL nx n:=by
 unfold loopsL;congr 1
 refine List.filter_congr fun u _=>?_;rw[Bool.eq_iff_iff,h u,decide_eq_true_iff]
theorem run_min2 (a b:Nat) (w:World):(Builtin.min_ #[3,3] 3 #[.int .i64 (a:Int),.int .i64 (b:Int)]).run Try.prog w= .ok (.int .i64 ((min a b:Nat):Int)) w:=by
 have e:(if (b:Int)<(a:Int) then (b:Int) else (a:Int))=((min a b:Nat):Int):=by split<;>omega
 rw[←e];simp[Builtin.min_,Builtin.min2]
theorem run_cut1 (w:World) (g n c m:Nat) (hm:m≤c):(Instr.slice 29 (.slice (some ⟨g,0,none⟩) n c) none (some (.int .i64 (m:Int))) none).run Try.prog w= .ok (.slice (some ⟨g,0,none⟩) m c) w:=by
 have hs:Try.prog.underlying 29=some (.slice (Try.prog.elem 29)):=by kernel_rfl
 have hz:(sizeOf (Try.prog.elem 29)).run Try.prog w= .ok 1 w:=by kernel_rfl
 rw[run_slice_h w _ _ _ _ hs _ _ (by omega) (by omega),hz,Result.andThen_ok]
 unfold sliced;rw[Int.toNat_natCast];simp[Addr.add]
theorem run_cut2 (w:World) (g n c m:Nat) (hm:m≤c):(Instr.slice 113 (.slice (some ⟨g,0,none⟩) n c) none (some (.int .i64 (m:Int))) none).run Try.prog w= .ok (.slice (some ⟨g,0,none⟩) m c) w:=by
 have hs:Try.prog.underlying 113=some (.slice (Try.prog.elem 113)):=by kernel_rfl
 have hz:(sizeOf (Try.prog.elem 113)).run Try.prog w= .ok 2 w:=by kernel_rfl
 rw[run_slice_h w _ _ _ _ hs _ _ (by omega) (by omega),hz,Result.andThen_ok]
 unfold sliced;rw[Int.toNat_natCast];simp[Addr.add]
theorem headW_many {P:Program} {ops:Array Oper} {Q:Exit→Act→World→Prop} {S:World→Prop} {n:Nat} {L:Array Bool→Act→World→Prop} {f:Nat} {listed:Array Bool} {a:Act} {w:World} (l:List Nat) (hr:Region.ready .any ops listed=l) (hne:l≠[])
  (h:∀i∈l,∃oi,ops[i]?=some oi∧i<n∧Region.wanted oi (yielded ops a.tmps)=true∧∀K:Act→World→Prop,Shut (∀a' w',S w'→(S w'→HeadW P ops Q S n L f (listed.setIfInBounds i true) a' w')→K a' w')→Oper.wp P oi a w K Q):HeadW P ops Q S n L (f+1) listed a w:=fun inv=>by
 refine ⟨fun h0=>(by rw[hr] at h0;exact hne h0),fun k hk=>?_⟩
 have hk2:=hk
 rw[hr] at hk2
 obtain ⟨oi,h1,h2,h3,h4⟩:=h k hk2
 exact ⟨h2,wpOp_step h1 fun K' hK=>by rw[if_pos h3];exact h4 K' fun a' w' hS hW=>hK a' w' ⟨hS,hW hS (inv.set hk h2)⟩⟩
theorem blk4 (w:World) (a b c d:Array Value) (ta tb tc td:TypeId):Blk (((((w.alloc (.cells a ta)).alloc (.cells b tb)).alloc (.cells c tc)).alloc (.cells d td)).drew) w.heap.size ta a∧Blk (((((w.alloc (.cells a ta)).alloc (.cells b tb)).alloc (.cells c tc)).alloc (.cells d td)).drew) (w.heap.size+1) tb b∧
  Blk (((((w.alloc (.cells a ta)).alloc (.cells b tb)).alloc (.cells c tc)).alloc (.cells d td)).drew) (w.heap.size+2) tc c∧Blk (((((w.alloc (.cells a ta)).alloc (.cells b tb)).alloc (.cells c tc)).alloc (.cells d td)).drew) (w.heap.size+3) td d:=by
 have h3:=Blk.new2 (w.alloc (.cells a ta)) (.cells b tb) tc c
 have h4:=Blk.new2 ((w.alloc (.cells a ta)).alloc (.cells b tb)) (.cells c tc) td d
 rw[World.size_alloc] at h3
 rw[World.size_alloc,World.size_alloc] at h4
 exact ⟨(((Blk.new w ta a).alloc _).alloc _).alloc _,((Blk.new2 w _ tb b).alloc _).alloc _,h3.alloc _,h4⟩
theorem below4 (w:World) (a b c d:Obj):Below w.heap.size w (((((w.alloc a).alloc b).alloc c).alloc d).drew):=
 below_drewN (((((Below.refl _ w).alloc (Nat.le_refl _) _).alloc (by simp) _).alloc (by simp;omega) _).alloc (by simp;omega) _) 1
theorem OwnI.of_blk {w:World} {g n:Nat} {xs:List Int} (h:Blk w g 3 (xs.map iv).toArray) (hn:xs.length=n) (hm:n≤1000000):OwnI w 0 (some ⟨g,0,none⟩) n n xs:=
 ⟨by rw[List.length_map,hn,Nat.mul_one],.inr ⟨g,n,(xs.map iv).toArray,rfl,Nat.zero_le _,h,Nat.le_refl _,by unfold maxLen;omega,by simp[hn],by rw[Nat.mul_one,List.take_of_length_le (by simp[hn])]⟩⟩
def TwoPost (w1:World) (N:Nat) (s t:Value) (wx:World):Prop:=
 ∃gN gB bN bB,s= .pointer (some ⟨bN,0,none⟩)∧t= .pointer (some ⟨bB,0,none⟩)∧Blk wx bN 29 #[.slice (some ⟨gN,0,none⟩) N N]∧Blk wx bB 29 #[.slice (some ⟨gB,0,none⟩) N N]∧OwnI wx 0 (some ⟨gN,0,none⟩) N N (List.replicate N 0)∧OwnI wx 0 (some ⟨gB,0,none⟩) N N (List.replicate N 0)∧
  (gN≠gB∧gN≠bN∧gN≠bB∧gB≠bN∧gB≠bB∧bN≠bB)∧(w1.heap.size≤gN∧w1.heap.size≤gB∧w1.heap.size≤bN∧w1.heap.size≤bB)∧Below w1.heap.size w1 wx
set_option maxRecDepth 100000 in
set_option maxHeartbeats 4000000 in
theorem loops_any (p:PrgM) (f N:Nat) (h:List Int) (A:Option Addr) (c:Nat) (w:World) (hp:PrgAt w p) (hr:RV w A (h.map iv)) (hl:h.length=N) (hN:0<N) (hN2:N≤4096)
  (h0:∀x,h[0]?=some x→0≤x) (hnx:∀v,v<N→∀u∈nxI p.plain f h v,0≤u∧u<(N:Int)):
  Calls Try.prog 39 #[p.val,.int .i64 (f:Int),.slice A N c] w (IntsPost w (loopsL (nxN p.plain f h) N)):=by
 obtain ⟨w1,hw1⟩:∃w1,w1=((w.alloc (.cells #[.int .i64 p.mem,.slice p.AD p.data.length p.cD,.slice p.AF p.fs.length p.cF] 26)).alloc (.cells #[.int .i64 (f:Int)] 3)).alloc (.cells #[.slice A N c] 29):=⟨_,rfl⟩
 have hb1:Below w.heap.size w w1:=by rw[hw1];exact (((Below.refl _ _).alloc (Nat.le_refl _) _).alloc (by simp) _).alloc (by simp;omega) _
 have hX1:Blk w1 w.heap.size 26 #[.int .i64 p.mem,.slice p.AD p.data.length p.cD,.slice p.AF p.fs.length p.cF]:=by rw[hw1];exact ((Blk.new w _ _).alloc _).alloc _
 have hF1:Blk w1 (w.heap.size+1) 3 #[.int .i64 (f:Int)]:=by rw[hw1];exact (Blk.new2 _ _ _ _).alloc _
 have hH1:Blk w1 (w.heap.size+1+1) 29 #[.slice A N c]:=by
  rw[hw1];have h:=Blk.new2 (w.alloc (.cells #[.int .i64 p.mem,.slice p.AD p.data.length p.cD,.slice p.AF p.fs.length p.cF] 26)) (.cells #[.int .i64 (f:Int)] 3) 29 #[.slice A N c];rw[World.size_alloc] at h;exact h
 have hz1:w1.heap.size=w.heap.size+3:=by rw[hw1];simp
 obtain ⟨gx,hgx⟩:∃g,g=w.heap.size:=⟨_,rfl⟩
 obtain ⟨gf,hgf⟩:∃g,g=w.heap.size+1:=⟨_,rfl⟩
 obtain ⟨gh,hgh⟩:∃g,g=w.heap.size+1+1:=⟨_,rfl⟩
 rw[←hgx] at hX1
 rw[←hgf] at hF1
 rw[←hgh] at hH1
 obtain ⟨b,off,hA,hbA,hc⟩:=hr.at_ (by rw[List.length_map];omega)
 subst hA
 obtain ⟨x,hx⟩:∃x,h[0]?=some x:=⟨_,List.getElem?_eq_getElem (by omega)⟩
 have hx0:=h0 x hx
 have c0:=hc 0 (.int .i64 x) (by rw[List.getElem?_map,hx];rfl)
 have hhl1:=hH1.lt
 have hr1:=hr.below hb1
 have c1:w1.cell? ⟨b,off,none⟩=some (.int .i64 x):=by rw[(bcell hb1).1 _ _ hbA];exact c0
 have hx1:w1.cell? ⟨gh,0,none⟩=some (.slice (some ⟨b,off,none⟩) N c):=hH1.cell 0
 have hbA1:b<w1.heap.size:=Nat.lt_of_lt_of_le hbA hb1.size
 have HX:=Lib.hid hX1
 have HF:=Lib.hid hF1
 have HH:=Lib.hid hH1
 have HP:=Lib.hid (hp.below hb1)
 have HR:=Lib.hid hr1
 have HB1:=Lib.hid hb1
 have Hw1:=Lib.hid hw1
 have Hg:=Lib.hid (show gx=w.heap.size∧gf=w.heap.size+1∧gh=w.heap.size+2∧w1.heap.size=w.heap.size+3 from ⟨hgx,hgf,by omega,hz1⟩)
 have hgf2:gf=gx+1:=by omega
 have hgh2:gh=gx+1+1:=by omega
 have Hgx:=Lib.hid hgx
 have Hgf:=Lib.hid hgf2
 have Hgh:=Lib.hid hgh2
 have Hnx:=Lib.hid hnx
 have Hl:=Lib.hid hl
 have hmkI:=run_ints N (by omega)
 have hmkB:=run_bools N (by omega)
 clear hp hr hw1 hb1 hX1 hF1 hH1 hgx hgf hgh hgf2 hgh2 hz1 hc c0 h0 hx hr1 hnx hl hbA
 go_enter Try.func39,Try.ntmps39
 go_wp2_with fail
 rw[←Hw1.out, ←Hgx.out, ←Hgh.out, ←Hgf.out]
 go_upto_region 2 with (fail)
 go_cut [8,9] from 27 to 32 (fun s t wx=>TwoPost w1 N s t wx)
 case first=>
  have Hx1:=Lib.hid (fun (w':World) (h:Below w1.heap.size w1 w')=>show w'.cell? ⟨gh,0,none⟩=some (.slice (some ⟨b,off,none⟩) N c) from (HH.out.below h HH.out.lt).cell 0)
  have hb0d:=below_drewN (Below.refl w1.heap.size w1) 1;have HSC:=Lib.hid hb0d;refine region_heldT 10 (fun w'=>Below w1.heap.size w1 w') (by kernel_rfl) (by decide) ?_
  refine hwA 0 (.slice (some ⟨b,off,none⟩) N c) HSC.out ?_ (hy:=by intro w hSw;have e0:=Hx1.out w hSw;(try dsimp only at hSw);go_simp)
  simp only[Act.put,List.setIfInBounds_toArray];refine hwA 1 (.int .i64 (N:Int)) HSC.out ?_ (hy:=by intro w hSw;have e0:=Hx1.out w hSw;(try dsimp only at hSw);go_simp)
  simp only[Act.put];refine hwA 3 (.slice (some ⟨b,off,none⟩) N c) HSC.out ?_ (hy:=by intro w hSw;have e0:=Hx1.out w hSw;(try dsimp only at hSw);go_simp)
  simp only[Act.put];refine hwA 4 (.int .i64 (N:Int)) HSC.out ?_ (hy:=by intro w hSw;have e0:=Hx1.out w hSw;(try dsimp only at hSw);go_simp)
  simp only[Act.put];refine headW_many [2,5,6,7] (by kernel_rfl) (by decide) ?_
  intro i hi;simp only[List.mem_cons,List.not_mem_nil,or_false] at hi;rcases hi with rfl|rfl|rfl|rfl
  ·refine ⟨_,rfl,by decide,by kernel_rfl,fun K hK=>?_⟩
   go_simp;refine hkB hK fun hHeld=>?_;clear hK K hHeld;refine headW_many [5,6,7] (by kernel_rfl) (by decide) ?_
   intro i hi;simp only[List.mem_cons,List.not_mem_nil,or_false] at hi;rcases hi with rfl|rfl|rfl
   ·refine ⟨_,rfl,by decide,by kernel_rfl,fun K hK=>?_⟩
    go_simp;refine hkB hK fun hHeld=>?_;clear hK K hHeld;refine headW_many [6,7] (by kernel_rfl) (by decide) ?_
    intro i hi;simp only[List.mem_cons,List.not_mem_nil,or_false] at hi;rcases hi with rfl|rfl
    ·refine ⟨_,rfl,by decide,by kernel_rfl,fun K hK=>?_⟩
     go_simp;refine hkB hK fun hHeld=>?_;clear hK K hHeld;refine hwO 7 fun K hK=>?_;go_simp;refine hkB hK fun hHeld=>?_;clear hK K hHeld;refine hwO 8 fun K hK=>?_;go_simp;refine hkB hK fun hHeld=>?_;clear hK K hHeld;refine hwO 9 fun K hK=>?_;go_simp;refine hkB hK fun hHeld=>?_;clear hK K hHeld;refine fun _=>⟨by kernel_rfl,?_⟩
     simp only[List.drop_succ_cons,List.drop_zero];refine (‹∀(a':Act) (w':World),Met _ a' w'→_› _ _ ?_);go_meet;have eI:Array.replicate N (iv 0)=((List.replicate N (0:Int)).map iv).toArray:=by simp
     have hb4:=blk4 w1 (Array.replicate N (iv 0)) (Array.replicate N (iv 0)) #[.slice (some ⟨w1.heap.size,0,none⟩) N N] #[.slice (some ⟨(w1.heap.size+1),0,none⟩) N N] 3 3 29 29;exact ⟨w1.heap.size,(w1.heap.size+1),(w1.heap.size+2),(w1.heap.size+3),rfl,rfl,hb4.2.2.1,hb4.2.2.2,OwnI.of_blk (by rw[←eI];exact hb4.1) (by simp) (by omega),OwnI.of_blk (by rw[←eI];exact hb4.2.1) (by simp) (by omega),by omega,by omega,below4 _ _ _ _ _⟩
    refine ⟨_,rfl,by decide,by kernel_rfl,fun K hK=>?_⟩
    go_simp;refine hkB hK fun hHeld=>?_;clear hK K hHeld;refine hwO 6 fun K hK=>?_;go_simp;refine hkB hK fun hHeld=>?_;clear hK K hHeld;refine hwO 8 fun K hK=>?_;go_simp;refine hkB hK fun hHeld=>?_;clear hK K hHeld;refine hwO 9 fun K hK=>?_;go_simp;refine hkB hK fun hHeld=>?_;clear hK K hHeld;refine fun _=>⟨by kernel_rfl,?_⟩
    simp only[List.drop_succ_cons,List.drop_zero];refine (‹∀(a':Act) (w':World),Met _ a' w'→_› _ _ ?_);go_meet;have eI:Array.replicate N (iv 0)=((List.replicate N (0:Int)).map iv).toArray:=by simp
    have hb4:=blk4 w1 (Array.replicate N (iv 0)) (Array.replicate N (iv 0)) #[.slice (some ⟨(w1.heap.size+1),0,none⟩) N N] #[.slice (some ⟨w1.heap.size,0,none⟩) N N] 3 3 29 29;exact ⟨w1.heap.size,(w1.heap.size+1),(w1.heap.size+3),(w1.heap.size+2),rfl,rfl,hb4.2.2.2,hb4.2.2.1,OwnI.of_blk (by rw[←eI];exact hb4.1) (by simp) (by omega),OwnI.of_blk (by rw[←eI];exact hb4.2.1) (by simp) (by omega),by omega,by omega,below4 _ _ _ _ _⟩
   ·refine ⟨_,rfl,by decide,by kernel_rfl,fun K hK=>?_⟩
    go_simp;refine hkB hK fun hHeld=>?_;clear hK K hHeld;refine headW_many [5,7] (by kernel_rfl) (by decide) ?_
    intro i hi;simp only[List.mem_cons,List.not_mem_nil,or_false] at hi;rcases hi with rfl|rfl
    ·refine ⟨_,rfl,by decide,by kernel_rfl,fun K hK=>?_⟩
     go_simp;refine hkB hK fun hHeld=>?_;clear hK K hHeld;refine hwO 7 fun K hK=>?_;go_simp;refine hkB hK fun hHeld=>?_;clear hK K hHeld;refine hwO 8 fun K hK=>?_;go_simp;refine hkB hK fun hHeld=>?_;clear hK K hHeld;refine hwO 9 fun K hK=>?_;go_simp;refine hkB hK fun hHeld=>?_;clear hK K hHeld;refine fun _=>⟨by kernel_rfl,?_⟩
     simp only[List.drop_succ_cons,List.drop_zero];refine (‹∀(a':Act) (w':World),Met _ a' w'→_› _ _ ?_);go_meet;have eI:Array.replicate N (iv 0)=((List.replicate N (0:Int)).map iv).toArray:=by simp
     have hb4:=blk4 w1 (Array.replicate N (iv 0)) #[.slice (some ⟨w1.heap.size,0,none⟩) N N] (Array.replicate N (iv 0)) #[.slice (some ⟨(w1.heap.size+2),0,none⟩) N N] 3 29 3 29;exact ⟨w1.heap.size,(w1.heap.size+2),(w1.heap.size+1),(w1.heap.size+3),rfl,rfl,hb4.2.1,hb4.2.2.2,OwnI.of_blk (by rw[←eI];exact hb4.1) (by simp) (by omega),OwnI.of_blk (by rw[←eI];exact hb4.2.2.1) (by simp) (by omega),by omega,by omega,below4 _ _ _ _ _⟩
    refine ⟨_,rfl,by decide,by kernel_rfl,fun K hK=>?_⟩
    go_simp;refine hkB hK fun hHeld=>?_;clear hK K hHeld;refine headW_many [5,8] (by kernel_rfl) (by decide) ?_
    intro i hi;simp only[List.mem_cons,List.not_mem_nil,or_false] at hi;rcases hi with rfl|rfl
    ·refine ⟨_,rfl,by decide,by kernel_rfl,fun K hK=>?_⟩
     go_simp;refine hkB hK fun hHeld=>?_;clear hK K hHeld;refine hwO 8 fun K hK=>?_;go_simp;refine hkB hK fun hHeld=>?_;clear hK K hHeld;refine hwO 9 fun K hK=>?_;go_simp;refine hkB hK fun hHeld=>?_;clear hK K hHeld;refine fun _=>⟨by kernel_rfl,?_⟩
     simp only[List.drop_succ_cons,List.drop_zero];refine (‹∀(a':Act) (w':World),Met _ a' w'→_› _ _ ?_);go_meet;have eI:Array.replicate N (iv 0)=((List.replicate N (0:Int)).map iv).toArray:=by simp
     have hb4:=blk4 w1 (Array.replicate N (iv 0)) #[.slice (some ⟨w1.heap.size,0,none⟩) N N] #[.slice (some ⟨(w1.heap.size+3),0,none⟩) N N] (Array.replicate N (iv 0)) 3 29 29 3;exact ⟨w1.heap.size,(w1.heap.size+3),(w1.heap.size+1),(w1.heap.size+2),rfl,rfl,hb4.2.1,hb4.2.2.1,OwnI.of_blk (by rw[←eI];exact hb4.1) (by simp) (by omega),OwnI.of_blk (by rw[←eI];exact hb4.2.2.2) (by simp) (by omega),by omega,by omega,below4 _ _ _ _ _⟩
    refine ⟨_,rfl,by decide,by kernel_rfl,fun K hK=>?_⟩
    go_simp;refine hkB hK fun hHeld=>?_;clear hK K hHeld;refine hwO 5 fun K hK=>?_;go_simp;refine hkB hK fun hHeld=>?_;clear hK K hHeld;refine hwO 9 fun K hK=>?_;go_simp;refine hkB hK fun hHeld=>?_;clear hK K hHeld;refine fun _=>⟨by kernel_rfl,?_⟩
    simp only[List.drop_succ_cons,List.drop_zero];refine (‹∀(a':Act) (w':World),Met _ a' w'→_› _ _ ?_);go_meet;have eI:Array.replicate N (iv 0)=((List.replicate N (0:Int)).map iv).toArray:=by simp
    have hb4:=blk4 w1 (Array.replicate N (iv 0)) #[.slice (some ⟨w1.heap.size,0,none⟩) N N] #[.slice (some ⟨(w1.heap.size+3),0,none⟩) N N] (Array.replicate N (iv 0)) 3 29 29 3;exact ⟨w1.heap.size,(w1.heap.size+3),(w1.heap.size+1),(w1.heap.size+2),rfl,rfl,hb4.2.1,hb4.2.2.1,OwnI.of_blk (by rw[←eI];exact hb4.1) (by simp) (by omega),OwnI.of_blk (by rw[←eI];exact hb4.2.2.2) (by simp) (by omega),by omega,by omega,below4 _ _ _ _ _⟩
   refine ⟨_,rfl,by decide,by kernel_rfl,fun K hK=>?_⟩
   go_simp;refine hkB hK fun hHeld=>?_;clear hK K hHeld;refine headW_many [5,6] (by kernel_rfl) (by decide) ?_
   intro i hi;simp only[List.mem_cons,List.not_mem_nil,or_false] at hi;rcases hi with rfl|rfl
   ·refine ⟨_,rfl,by decide,by kernel_rfl,fun K hK=>?_⟩
    go_simp;refine hkB hK fun hHeld=>?_;clear hK K hHeld;refine hwO 6 fun K hK=>?_;go_simp;refine hkB hK fun hHeld=>?_;clear hK K hHeld;refine hwO 8 fun K hK=>?_;go_simp;refine hkB hK fun hHeld=>?_;clear hK K hHeld;refine hwO 9 fun K hK=>?_;go_simp;refine hkB hK fun hHeld=>?_;clear hK K hHeld;refine fun _=>⟨by kernel_rfl,?_⟩
    simp only[List.drop_succ_cons,List.drop_zero];refine (‹∀(a':Act) (w':World),Met _ a' w'→_› _ _ ?_);go_meet;have eI:Array.replicate N (iv 0)=((List.replicate N (0:Int)).map iv).toArray:=by simp
    have hb4:=blk4 w1 (Array.replicate N (iv 0)) #[.slice (some ⟨(w1.heap.size+2),0,none⟩) N N] (Array.replicate N (iv 0)) #[.slice (some ⟨w1.heap.size,0,none⟩) N N] 3 29 3 29;exact ⟨w1.heap.size,(w1.heap.size+2),(w1.heap.size+3),(w1.heap.size+1),rfl,rfl,hb4.2.2.2,hb4.2.1,OwnI.of_blk (by rw[←eI];exact hb4.1) (by simp) (by omega),OwnI.of_blk (by rw[←eI];exact hb4.2.2.1) (by simp) (by omega),by omega,by omega,below4 _ _ _ _ _⟩
   refine ⟨_,rfl,by decide,by kernel_rfl,fun K hK=>?_⟩
   go_simp;refine hkB hK fun hHeld=>?_;clear hK K hHeld;refine headW_many [5,8] (by kernel_rfl) (by decide) ?_
   intro i hi;simp only[List.mem_cons,List.not_mem_nil,or_false] at hi;rcases hi with rfl|rfl
   ·refine ⟨_,rfl,by decide,by kernel_rfl,fun K hK=>?_⟩
    go_simp;refine hkB hK fun hHeld=>?_;clear hK K hHeld;refine hwO 8 fun K hK=>?_;go_simp;refine hkB hK fun hHeld=>?_;clear hK K hHeld;refine hwO 9 fun K hK=>?_;go_simp;refine hkB hK fun hHeld=>?_;clear hK K hHeld;refine fun _=>⟨by kernel_rfl,?_⟩
    simp only[List.drop_succ_cons,List.drop_zero];refine (‹∀(a':Act) (w':World),Met _ a' w'→_› _ _ ?_);go_meet;have eI:Array.replicate N (iv 0)=((List.replicate N (0:Int)).map iv).toArray:=by simp
    have hb4:=blk4 w1 (Array.replicate N (iv 0)) #[.slice (some ⟨(w1.heap.size+3),0,none⟩) N N] #[.slice (some ⟨w1.heap.size,0,none⟩) N N] (Array.replicate N (iv 0)) 3 29 29 3;exact ⟨w1.heap.size,(w1.heap.size+3),(w1.heap.size+2),(w1.heap.size+1),rfl,rfl,hb4.2.2.1,hb4.2.1,OwnI.of_blk (by rw[←eI];exact hb4.1) (by simp) (by omega),OwnI.of_blk (by rw[←eI];exact hb4.2.2.2) (by simp) (by omega),by omega,by omega,below4 _ _ _ _ _⟩
   refine ⟨_,rfl,by decide,by kernel_rfl,fun K hK=>?_⟩
   go_simp;refine hkB hK fun hHeld=>?_;clear hK K hHeld;refine hwO 5 fun K hK=>?_;go_simp;refine hkB hK fun hHeld=>?_;clear hK K hHeld;refine hwO 9 fun K hK=>?_;go_simp;refine hkB hK fun hHeld=>?_;clear hK K hHeld;refine fun _=>⟨by kernel_rfl,?_⟩
   simp only[List.drop_succ_cons,List.drop_zero];refine (‹∀(a':Act) (w':World),Met _ a' w'→_› _ _ ?_);go_meet;have eI:Array.replicate N (iv 0)=((List.replicate N (0:Int)).map iv).toArray:=by simp
   have hb4:=blk4 w1 (Array.replicate N (iv 0)) #[.slice (some ⟨(w1.heap.size+3),0,none⟩) N N] #[.slice (some ⟨w1.heap.size,0,none⟩) N N] (Array.replicate N (iv 0)) 3 29 29 3;exact ⟨w1.heap.size,(w1.heap.size+3),(w1.heap.size+2),(w1.heap.size+1),rfl,rfl,hb4.2.2.1,hb4.2.1,OwnI.of_blk (by rw[←eI];exact hb4.1) (by simp) (by omega),OwnI.of_blk (by rw[←eI];exact hb4.2.2.2) (by simp) (by omega),by omega,by omega,below4 _ _ _ _ _⟩
  ·refine ⟨_,rfl,by decide,by kernel_rfl,fun K hK=>?_⟩
   go_simp;refine hkB hK fun hHeld=>?_;clear hK K hHeld;refine headW_many [2,6,7] (by kernel_rfl) (by decide) ?_
   intro i hi;simp only[List.mem_cons,List.not_mem_nil,or_false] at hi;rcases hi with rfl|rfl|rfl
   ·refine ⟨_,rfl,by decide,by kernel_rfl,fun K hK=>?_⟩
    go_simp;refine hkB hK fun hHeld=>?_;clear hK K hHeld;refine headW_many [6,7] (by kernel_rfl) (by decide) ?_
    intro i hi;simp only[List.mem_cons,List.not_mem_nil,or_false] at hi;rcases hi with rfl|rfl
    ·refine ⟨_,rfl,by decide,by kernel_rfl,fun K hK=>?_⟩
     go_simp;refine hkB hK fun hHeld=>?_;clear hK K hHeld;refine hwO 7 fun K hK=>?_;go_simp;refine hkB hK fun hHeld=>?_;clear hK K hHeld;refine hwO 8 fun K hK=>?_;go_simp;refine hkB hK fun hHeld=>?_;clear hK K hHeld;refine hwO 9 fun K hK=>?_;go_simp;refine hkB hK fun hHeld=>?_;clear hK K hHeld;refine fun _=>⟨by kernel_rfl,?_⟩
     simp only[List.drop_succ_cons,List.drop_zero];refine (‹∀(a':Act) (w':World),Met _ a' w'→_› _ _ ?_);go_meet;have eI:Array.replicate N (iv 0)=((List.replicate N (0:Int)).map iv).toArray:=by simp
     have hb4:=blk4 w1 (Array.replicate N (iv 0)) (Array.replicate N (iv 0)) #[.slice (some ⟨(w1.heap.size+1),0,none⟩) N N] #[.slice (some ⟨w1.heap.size,0,none⟩) N N] 3 3 29 29;exact ⟨(w1.heap.size+1),w1.heap.size,(w1.heap.size+2),(w1.heap.size+3),rfl,rfl,hb4.2.2.1,hb4.2.2.2,OwnI.of_blk (by rw[←eI];exact hb4.2.1) (by simp) (by omega),OwnI.of_blk (by rw[←eI];exact hb4.1) (by simp) (by omega),by omega,by omega,below4 _ _ _ _ _⟩
    refine ⟨_,rfl,by decide,by kernel_rfl,fun K hK=>?_⟩
    go_simp;refine hkB hK fun hHeld=>?_;clear hK K hHeld;refine hwO 6 fun K hK=>?_;go_simp;refine hkB hK fun hHeld=>?_;clear hK K hHeld;refine hwO 8 fun K hK=>?_;go_simp;refine hkB hK fun hHeld=>?_;clear hK K hHeld;refine hwO 9 fun K hK=>?_;go_simp;refine hkB hK fun hHeld=>?_;clear hK K hHeld;refine fun _=>⟨by kernel_rfl,?_⟩
    simp only[List.drop_succ_cons,List.drop_zero];refine (‹∀(a':Act) (w':World),Met _ a' w'→_› _ _ ?_);go_meet;have eI:Array.replicate N (iv 0)=((List.replicate N (0:Int)).map iv).toArray:=by simp
    have hb4:=blk4 w1 (Array.replicate N (iv 0)) (Array.replicate N (iv 0)) #[.slice (some ⟨w1.heap.size,0,none⟩) N N] #[.slice (some ⟨(w1.heap.size+1),0,none⟩) N N] 3 3 29 29;exact ⟨(w1.heap.size+1),w1.heap.size,(w1.heap.size+3),(w1.heap.size+2),rfl,rfl,hb4.2.2.2,hb4.2.2.1,OwnI.of_blk (by rw[←eI];exact hb4.2.1) (by simp) (by omega),OwnI.of_blk (by rw[←eI];exact hb4.1) (by simp) (by omega),by omega,by omega,below4 _ _ _ _ _⟩
   ·refine ⟨_,rfl,by decide,by kernel_rfl,fun K hK=>?_⟩
    go_simp;refine hkB hK fun hHeld=>?_;clear hK K hHeld;refine headW_many [2,7] (by kernel_rfl) (by decide) ?_
    intro i hi;simp only[List.mem_cons,List.not_mem_nil,or_false] at hi;rcases hi with rfl|rfl
    ·refine ⟨_,rfl,by decide,by kernel_rfl,fun K hK=>?_⟩
     go_simp;refine hkB hK fun hHeld=>?_;clear hK K hHeld;refine hwO 7 fun K hK=>?_;go_simp;refine hkB hK fun hHeld=>?_;clear hK K hHeld;refine hwO 8 fun K hK=>?_;go_simp;refine hkB hK fun hHeld=>?_;clear hK K hHeld;refine hwO 9 fun K hK=>?_;go_simp;refine hkB hK fun hHeld=>?_;clear hK K hHeld;refine fun _=>⟨by kernel_rfl,?_⟩
     simp only[List.drop_succ_cons,List.drop_zero];refine (‹∀(a':Act) (w':World),Met _ a' w'→_› _ _ ?_);go_meet;have eI:Array.replicate N (iv 0)=((List.replicate N (0:Int)).map iv).toArray:=by simp
     have hb4:=blk4 w1 (Array.replicate N (iv 0)) #[.slice (some ⟨(w1.heap.size+2),0,none⟩) N N] (Array.replicate N (iv 0)) #[.slice (some ⟨w1.heap.size,0,none⟩) N N] 3 29 3 29;exact ⟨(w1.heap.size+2),w1.heap.size,(w1.heap.size+1),(w1.heap.size+3),rfl,rfl,hb4.2.1,hb4.2.2.2,OwnI.of_blk (by rw[←eI];exact hb4.2.2.1) (by simp) (by omega),OwnI.of_blk (by rw[←eI];exact hb4.1) (by simp) (by omega),by omega,by omega,below4 _ _ _ _ _⟩
    refine ⟨_,rfl,by decide,by kernel_rfl,fun K hK=>?_⟩
    go_simp;refine hkB hK fun hHeld=>?_;clear hK K hHeld;refine hwO 2 fun K hK=>?_;go_simp;refine hkB hK fun hHeld=>?_;clear hK K hHeld;refine hwO 8 fun K hK=>?_;go_simp;refine hkB hK fun hHeld=>?_;clear hK K hHeld;refine hwO 9 fun K hK=>?_;go_simp;refine hkB hK fun hHeld=>?_;clear hK K hHeld;refine fun _=>⟨by kernel_rfl,?_⟩
    simp only[List.drop_succ_cons,List.drop_zero];refine (‹∀(a':Act) (w':World),Met _ a' w'→_› _ _ ?_);go_meet;have eI:Array.replicate N (iv 0)=((List.replicate N (0:Int)).map iv).toArray:=by simp
    have hb4:=blk4 w1 (Array.replicate N (iv 0)) #[.slice (some ⟨(w1.heap.size+3),0,none⟩) N N] #[.slice (some ⟨w1.heap.size,0,none⟩) N N] (Array.replicate N (iv 0)) 3 29 29 3;exact ⟨(w1.heap.size+3),w1.heap.size,(w1.heap.size+1),(w1.heap.size+2),rfl,rfl,hb4.2.1,hb4.2.2.1,OwnI.of_blk (by rw[←eI];exact hb4.2.2.2) (by simp) (by omega),OwnI.of_blk (by rw[←eI];exact hb4.1) (by simp) (by omega),by omega,by omega,below4 _ _ _ _ _⟩
   refine ⟨_,rfl,by decide,by kernel_rfl,fun K hK=>?_⟩
   go_simp;refine hkB hK fun hHeld=>?_;clear hK K hHeld;refine headW_many [2,6] (by kernel_rfl) (by decide) ?_
   intro i hi;simp only[List.mem_cons,List.not_mem_nil,or_false] at hi;rcases hi with rfl|rfl
   ·refine ⟨_,rfl,by decide,by kernel_rfl,fun K hK=>?_⟩
    go_simp;refine hkB hK fun hHeld=>?_;clear hK K hHeld;refine hwO 6 fun K hK=>?_;go_simp;refine hkB hK fun hHeld=>?_;clear hK K hHeld;refine hwO 8 fun K hK=>?_;go_simp;refine hkB hK fun hHeld=>?_;clear hK K hHeld;refine hwO 9 fun K hK=>?_;go_simp;refine hkB hK fun hHeld=>?_;clear hK K hHeld;refine fun _=>⟨by kernel_rfl,?_⟩
    simp only[List.drop_succ_cons,List.drop_zero];refine (‹∀(a':Act) (w':World),Met _ a' w'→_› _ _ ?_);go_meet;have eI:Array.replicate N (iv 0)=((List.replicate N (0:Int)).map iv).toArray:=by simp
    have hb4:=blk4 w1 (Array.replicate N (iv 0)) #[.slice (some ⟨w1.heap.size,0,none⟩) N N] (Array.replicate N (iv 0)) #[.slice (some ⟨(w1.heap.size+2),0,none⟩) N N] 3 29 3 29;exact ⟨(w1.heap.size+2),w1.heap.size,(w1.heap.size+3),(w1.heap.size+1),rfl,rfl,hb4.2.2.2,hb4.2.1,OwnI.of_blk (by rw[←eI];exact hb4.2.2.1) (by simp) (by omega),OwnI.of_blk (by rw[←eI];exact hb4.1) (by simp) (by omega),by omega,by omega,below4 _ _ _ _ _⟩
   refine ⟨_,rfl,by decide,by kernel_rfl,fun K hK=>?_⟩
   go_simp;refine hkB hK fun hHeld=>?_;clear hK K hHeld;refine hwO 2 fun K hK=>?_;go_simp;refine hkB hK fun hHeld=>?_;clear hK K hHeld;refine hwO 8 fun K hK=>?_;go_simp;refine hkB hK fun hHeld=>?_;clear hK K hHeld;refine hwO 9 fun K hK=>?_;go_simp;refine hkB hK fun hHeld=>?_;clear hK K hHeld;refine fun _=>⟨by kernel_rfl,?_⟩
   simp only[List.drop_succ_cons,List.drop_zero];refine (‹∀(a':Act) (w':World),Met _ a' w'→_› _ _ ?_);go_meet;have eI:Array.replicate N (iv 0)=((List.replicate N (0:Int)).map iv).toArray:=by simp
   have hb4:=blk4 w1 (Array.replicate N (iv 0)) #[.slice (some ⟨w1.heap.size,0,none⟩) N N] #[.slice (some ⟨(w1.heap.size+3),0,none⟩) N N] (Array.replicate N (iv 0)) 3 29 29 3;exact ⟨(w1.heap.size+3),w1.heap.size,(w1.heap.size+2),(w1.heap.size+1),rfl,rfl,hb4.2.2.1,hb4.2.1,OwnI.of_blk (by rw[←eI];exact hb4.2.2.2) (by simp) (by omega),OwnI.of_blk (by rw[←eI];exact hb4.1) (by simp) (by omega),by omega,by omega,below4 _ _ _ _ _⟩
  ·refine ⟨_,rfl,by decide,by kernel_rfl,fun K hK=>?_⟩
   go_simp;refine hkB hK fun hHeld=>?_;clear hK K hHeld;refine headW_many [2,5,7] (by kernel_rfl) (by decide) ?_
   intro i hi;simp only[List.mem_cons,List.not_mem_nil,or_false] at hi;rcases hi with rfl|rfl|rfl
   ·refine ⟨_,rfl,by decide,by kernel_rfl,fun K hK=>?_⟩
    go_simp;refine hkB hK fun hHeld=>?_;clear hK K hHeld;refine headW_many [5,7] (by kernel_rfl) (by decide) ?_
    intro i hi;simp only[List.mem_cons,List.not_mem_nil,or_false] at hi;rcases hi with rfl|rfl
    ·refine ⟨_,rfl,by decide,by kernel_rfl,fun K hK=>?_⟩
     go_simp;refine hkB hK fun hHeld=>?_;clear hK K hHeld;refine hwO 7 fun K hK=>?_;go_simp;refine hkB hK fun hHeld=>?_;clear hK K hHeld;refine hwO 8 fun K hK=>?_;go_simp;refine hkB hK fun hHeld=>?_;clear hK K hHeld;refine hwO 9 fun K hK=>?_;go_simp;refine hkB hK fun hHeld=>?_;clear hK K hHeld;refine fun _=>⟨by kernel_rfl,?_⟩
     simp only[List.drop_succ_cons,List.drop_zero];refine (‹∀(a':Act) (w':World),Met _ a' w'→_› _ _ ?_);go_meet;have eI:Array.replicate N (iv 0)=((List.replicate N (0:Int)).map iv).toArray:=by simp
     have hb4:=blk4 w1 #[.slice (some ⟨(w1.heap.size+1),0,none⟩) N N] (Array.replicate N (iv 0)) (Array.replicate N (iv 0)) #[.slice (some ⟨(w1.heap.size+2),0,none⟩) N N] 29 3 3 29;exact ⟨(w1.heap.size+1),(w1.heap.size+2),w1.heap.size,(w1.heap.size+3),rfl,rfl,hb4.1,hb4.2.2.2,OwnI.of_blk (by rw[←eI];exact hb4.2.1) (by simp) (by omega),OwnI.of_blk (by rw[←eI];exact hb4.2.2.1) (by simp) (by omega),by omega,by omega,below4 _ _ _ _ _⟩
    refine ⟨_,rfl,by decide,by kernel_rfl,fun K hK=>?_⟩
    go_simp;refine hkB hK fun hHeld=>?_;clear hK K hHeld;refine headW_many [5,8] (by kernel_rfl) (by decide) ?_
    intro i hi;simp only[List.mem_cons,List.not_mem_nil,or_false] at hi;rcases hi with rfl|rfl
    ·refine ⟨_,rfl,by decide,by kernel_rfl,fun K hK=>?_⟩
     go_simp;refine hkB hK fun hHeld=>?_;clear hK K hHeld;refine hwO 8 fun K hK=>?_;go_simp;refine hkB hK fun hHeld=>?_;clear hK K hHeld;refine hwO 9 fun K hK=>?_;go_simp;refine hkB hK fun hHeld=>?_;clear hK K hHeld;refine fun _=>⟨by kernel_rfl,?_⟩
     simp only[List.drop_succ_cons,List.drop_zero];refine (‹∀(a':Act) (w':World),Met _ a' w'→_› _ _ ?_);go_meet;have eI:Array.replicate N (iv 0)=((List.replicate N (0:Int)).map iv).toArray:=by simp
     have hb4:=blk4 w1 #[.slice (some ⟨(w1.heap.size+1),0,none⟩) N N] (Array.replicate N (iv 0)) #[.slice (some ⟨(w1.heap.size+3),0,none⟩) N N] (Array.replicate N (iv 0)) 29 3 29 3;exact ⟨(w1.heap.size+1),(w1.heap.size+3),w1.heap.size,(w1.heap.size+2),rfl,rfl,hb4.1,hb4.2.2.1,OwnI.of_blk (by rw[←eI];exact hb4.2.1) (by simp) (by omega),OwnI.of_blk (by rw[←eI];exact hb4.2.2.2) (by simp) (by omega),by omega,by omega,below4 _ _ _ _ _⟩
    refine ⟨_,rfl,by decide,by kernel_rfl,fun K hK=>?_⟩
    go_simp;refine hkB hK fun hHeld=>?_;clear hK K hHeld;refine hwO 5 fun K hK=>?_;go_simp;refine hkB hK fun hHeld=>?_;clear hK K hHeld;refine hwO 9 fun K hK=>?_;go_simp;refine hkB hK fun hHeld=>?_;clear hK K hHeld;refine fun _=>⟨by kernel_rfl,?_⟩
    simp only[List.drop_succ_cons,List.drop_zero];refine (‹∀(a':Act) (w':World),Met _ a' w'→_› _ _ ?_);go_meet;have eI:Array.replicate N (iv 0)=((List.replicate N (0:Int)).map iv).toArray:=by simp
    have hb4:=blk4 w1 #[.slice (some ⟨(w1.heap.size+1),0,none⟩) N N] (Array.replicate N (iv 0)) #[.slice (some ⟨(w1.heap.size+3),0,none⟩) N N] (Array.replicate N (iv 0)) 29 3 29 3;exact ⟨(w1.heap.size+1),(w1.heap.size+3),w1.heap.size,(w1.heap.size+2),rfl,rfl,hb4.1,hb4.2.2.1,OwnI.of_blk (by rw[←eI];exact hb4.2.1) (by simp) (by omega),OwnI.of_blk (by rw[←eI];exact hb4.2.2.2) (by simp) (by omega),by omega,by omega,below4 _ _ _ _ _⟩
   ·refine ⟨_,rfl,by decide,by kernel_rfl,fun K hK=>?_⟩
    go_simp;refine hkB hK fun hHeld=>?_;clear hK K hHeld;refine headW_many [2,7] (by kernel_rfl) (by decide) ?_
    intro i hi;simp only[List.mem_cons,List.not_mem_nil,or_false] at hi;rcases hi with rfl|rfl
    ·refine ⟨_,rfl,by decide,by kernel_rfl,fun K hK=>?_⟩
     go_simp;refine hkB hK fun hHeld=>?_;clear hK K hHeld;refine hwO 7 fun K hK=>?_;go_simp;refine hkB hK fun hHeld=>?_;clear hK K hHeld;refine hwO 8 fun K hK=>?_;go_simp;refine hkB hK fun hHeld=>?_;clear hK K hHeld;refine hwO 9 fun K hK=>?_;go_simp;refine hkB hK fun hHeld=>?_;clear hK K hHeld;refine fun _=>⟨by kernel_rfl,?_⟩
     simp only[List.drop_succ_cons,List.drop_zero];refine (‹∀(a':Act) (w':World),Met _ a' w'→_› _ _ ?_);go_meet;have eI:Array.replicate N (iv 0)=((List.replicate N (0:Int)).map iv).toArray:=by simp
     have hb4:=blk4 w1 #[.slice (some ⟨(w1.heap.size+2),0,none⟩) N N] (Array.replicate N (iv 0)) (Array.replicate N (iv 0)) #[.slice (some ⟨(w1.heap.size+1),0,none⟩) N N] 29 3 3 29;exact ⟨(w1.heap.size+2),(w1.heap.size+1),w1.heap.size,(w1.heap.size+3),rfl,rfl,hb4.1,hb4.2.2.2,OwnI.of_blk (by rw[←eI];exact hb4.2.2.1) (by simp) (by omega),OwnI.of_blk (by rw[←eI];exact hb4.2.1) (by simp) (by omega),by omega,by omega,below4 _ _ _ _ _⟩
    refine ⟨_,rfl,by decide,by kernel_rfl,fun K hK=>?_⟩
    go_simp;refine hkB hK fun hHeld=>?_;clear hK K hHeld;refine hwO 2 fun K hK=>?_;go_simp;refine hkB hK fun hHeld=>?_;clear hK K hHeld;refine hwO 8 fun K hK=>?_;go_simp;refine hkB hK fun hHeld=>?_;clear hK K hHeld;refine hwO 9 fun K hK=>?_;go_simp;refine hkB hK fun hHeld=>?_;clear hK K hHeld;refine fun _=>⟨by kernel_rfl,?_⟩
    simp only[List.drop_succ_cons,List.drop_zero];refine (‹∀(a':Act) (w':World),Met _ a' w'→_› _ _ ?_);go_meet;have eI:Array.replicate N (iv 0)=((List.replicate N (0:Int)).map iv).toArray:=by simp
    have hb4:=blk4 w1 #[.slice (some ⟨(w1.heap.size+3),0,none⟩) N N] (Array.replicate N (iv 0)) #[.slice (some ⟨(w1.heap.size+1),0,none⟩) N N] (Array.replicate N (iv 0)) 29 3 29 3;exact ⟨(w1.heap.size+3),(w1.heap.size+1),w1.heap.size,(w1.heap.size+2),rfl,rfl,hb4.1,hb4.2.2.1,OwnI.of_blk (by rw[←eI];exact hb4.2.2.2) (by simp) (by omega),OwnI.of_blk (by rw[←eI];exact hb4.2.1) (by simp) (by omega),by omega,by omega,below4 _ _ _ _ _⟩
   refine ⟨_,rfl,by decide,by kernel_rfl,fun K hK=>?_⟩
   go_simp;refine hkB hK fun hHeld=>?_;clear hK K hHeld;refine headW_many [2,5] (by kernel_rfl) (by decide) ?_
   intro i hi;simp only[List.mem_cons,List.not_mem_nil,or_false] at hi;rcases hi with rfl|rfl
   ·refine ⟨_,rfl,by decide,by kernel_rfl,fun K hK=>?_⟩
    go_simp;refine hkB hK fun hHeld=>?_;clear hK K hHeld;refine headW_many [5,8] (by kernel_rfl) (by decide) ?_
    intro i hi;simp only[List.mem_cons,List.not_mem_nil,or_false] at hi;rcases hi with rfl|rfl
    ·refine ⟨_,rfl,by decide,by kernel_rfl,fun K hK=>?_⟩
     go_simp;refine hkB hK fun hHeld=>?_;clear hK K hHeld;refine hwO 8 fun K hK=>?_;go_simp;refine hkB hK fun hHeld=>?_;clear hK K hHeld;refine hwO 9 fun K hK=>?_;go_simp;refine hkB hK fun hHeld=>?_;clear hK K hHeld;refine fun _=>⟨by kernel_rfl,?_⟩
     simp only[List.drop_succ_cons,List.drop_zero];refine (‹∀(a':Act) (w':World),Met _ a' w'→_› _ _ ?_);go_meet;have eI:Array.replicate N (iv 0)=((List.replicate N (0:Int)).map iv).toArray:=by simp
     have hb4:=blk4 w1 #[.slice (some ⟨(w1.heap.size+2),0,none⟩) N N] #[.slice (some ⟨(w1.heap.size+3),0,none⟩) N N] (Array.replicate N (iv 0)) (Array.replicate N (iv 0)) 29 29 3 3;exact ⟨(w1.heap.size+2),(w1.heap.size+3),w1.heap.size,(w1.heap.size+1),rfl,rfl,hb4.1,hb4.2.1,OwnI.of_blk (by rw[←eI];exact hb4.2.2.1) (by simp) (by omega),OwnI.of_blk (by rw[←eI];exact hb4.2.2.2) (by simp) (by omega),by omega,by omega,below4 _ _ _ _ _⟩
    refine ⟨_,rfl,by decide,by kernel_rfl,fun K hK=>?_⟩
    go_simp;refine hkB hK fun hHeld=>?_;clear hK K hHeld;refine hwO 5 fun K hK=>?_;go_simp;refine hkB hK fun hHeld=>?_;clear hK K hHeld;refine hwO 9 fun K hK=>?_;go_simp;refine hkB hK fun hHeld=>?_;clear hK K hHeld;refine fun _=>⟨by kernel_rfl,?_⟩
    simp only[List.drop_succ_cons,List.drop_zero];refine (‹∀(a':Act) (w':World),Met _ a' w'→_› _ _ ?_);go_meet;have eI:Array.replicate N (iv 0)=((List.replicate N (0:Int)).map iv).toArray:=by simp
    have hb4:=blk4 w1 #[.slice (some ⟨(w1.heap.size+2),0,none⟩) N N] #[.slice (some ⟨(w1.heap.size+3),0,none⟩) N N] (Array.replicate N (iv 0)) (Array.replicate N (iv 0)) 29 29 3 3;exact ⟨(w1.heap.size+2),(w1.heap.size+3),w1.heap.size,(w1.heap.size+1),rfl,rfl,hb4.1,hb4.2.1,OwnI.of_blk (by rw[←eI];exact hb4.2.2.1) (by simp) (by omega),OwnI.of_blk (by rw[←eI];exact hb4.2.2.2) (by simp) (by omega),by omega,by omega,below4 _ _ _ _ _⟩
   refine ⟨_,rfl,by decide,by kernel_rfl,fun K hK=>?_⟩
   go_simp;refine hkB hK fun hHeld=>?_;clear hK K hHeld;refine hwO 2 fun K hK=>?_;go_simp;refine hkB hK fun hHeld=>?_;clear hK K hHeld;refine hwO 8 fun K hK=>?_;go_simp;refine hkB hK fun hHeld=>?_;clear hK K hHeld;refine hwO 9 fun K hK=>?_;go_simp;refine hkB hK fun hHeld=>?_;clear hK K hHeld;refine fun _=>⟨by kernel_rfl,?_⟩
   simp only[List.drop_succ_cons,List.drop_zero];refine (‹∀(a':Act) (w':World),Met _ a' w'→_› _ _ ?_);go_meet;have eI:Array.replicate N (iv 0)=((List.replicate N (0:Int)).map iv).toArray:=by simp
   have hb4:=blk4 w1 #[.slice (some ⟨(w1.heap.size+3),0,none⟩) N N] #[.slice (some ⟨(w1.heap.size+2),0,none⟩) N N] (Array.replicate N (iv 0)) (Array.replicate N (iv 0)) 29 29 3 3;exact ⟨(w1.heap.size+3),(w1.heap.size+2),w1.heap.size,(w1.heap.size+1),rfl,rfl,hb4.1,hb4.2.1,OwnI.of_blk (by rw[←eI];exact hb4.2.2.2) (by simp) (by omega),OwnI.of_blk (by rw[←eI];exact hb4.2.2.1) (by simp) (by omega),by omega,by omega,below4 _ _ _ _ _⟩
  ·refine ⟨_,rfl,by decide,by kernel_rfl,fun K hK=>?_⟩
   go_simp;refine hkB hK fun hHeld=>?_;clear hK K hHeld;refine headW_many [2,5,6] (by kernel_rfl) (by decide) ?_
   intro i hi;simp only[List.mem_cons,List.not_mem_nil,or_false] at hi;rcases hi with rfl|rfl|rfl
   ·refine ⟨_,rfl,by decide,by kernel_rfl,fun K hK=>?_⟩
    go_simp;refine hkB hK fun hHeld=>?_;clear hK K hHeld;refine headW_many [5,6] (by kernel_rfl) (by decide) ?_
    intro i hi;simp only[List.mem_cons,List.not_mem_nil,or_false] at hi;rcases hi with rfl|rfl
    ·refine ⟨_,rfl,by decide,by kernel_rfl,fun K hK=>?_⟩
     go_simp;refine hkB hK fun hHeld=>?_;clear hK K hHeld;refine hwO 6 fun K hK=>?_;go_simp;refine hkB hK fun hHeld=>?_;clear hK K hHeld;refine hwO 8 fun K hK=>?_;go_simp;refine hkB hK fun hHeld=>?_;clear hK K hHeld;refine hwO 9 fun K hK=>?_;go_simp;refine hkB hK fun hHeld=>?_;clear hK K hHeld;refine fun _=>⟨by kernel_rfl,?_⟩
     simp only[List.drop_succ_cons,List.drop_zero];refine (‹∀(a':Act) (w':World),Met _ a' w'→_› _ _ ?_);go_meet;have eI:Array.replicate N (iv 0)=((List.replicate N (0:Int)).map iv).toArray:=by simp
     have hb4:=blk4 w1 #[.slice (some ⟨(w1.heap.size+2),0,none⟩) N N] (Array.replicate N (iv 0)) (Array.replicate N (iv 0)) #[.slice (some ⟨(w1.heap.size+1),0,none⟩) N N] 29 3 3 29;exact ⟨(w1.heap.size+1),(w1.heap.size+2),(w1.heap.size+3),w1.heap.size,rfl,rfl,hb4.2.2.2,hb4.1,OwnI.of_blk (by rw[←eI];exact hb4.2.1) (by simp) (by omega),OwnI.of_blk (by rw[←eI];exact hb4.2.2.1) (by simp) (by omega),by omega,by omega,below4 _ _ _ _ _⟩
    refine ⟨_,rfl,by decide,by kernel_rfl,fun K hK=>?_⟩
    go_simp;refine hkB hK fun hHeld=>?_;clear hK K hHeld;refine headW_many [5,8] (by kernel_rfl) (by decide) ?_
    intro i hi;simp only[List.mem_cons,List.not_mem_nil,or_false] at hi;rcases hi with rfl|rfl
    ·refine ⟨_,rfl,by decide,by kernel_rfl,fun K hK=>?_⟩
     go_simp;refine hkB hK fun hHeld=>?_;clear hK K hHeld;refine hwO 8 fun K hK=>?_;go_simp;refine hkB hK fun hHeld=>?_;clear hK K hHeld;refine hwO 9 fun K hK=>?_;go_simp;refine hkB hK fun hHeld=>?_;clear hK K hHeld;refine fun _=>⟨by kernel_rfl,?_⟩
     simp only[List.drop_succ_cons,List.drop_zero];refine (‹∀(a':Act) (w':World),Met _ a' w'→_› _ _ ?_);go_meet;have eI:Array.replicate N (iv 0)=((List.replicate N (0:Int)).map iv).toArray:=by simp
     have hb4:=blk4 w1 #[.slice (some ⟨(w1.heap.size+3),0,none⟩) N N] (Array.replicate N (iv 0)) #[.slice (some ⟨(w1.heap.size+1),0,none⟩) N N] (Array.replicate N (iv 0)) 29 3 29 3;exact ⟨(w1.heap.size+1),(w1.heap.size+3),(w1.heap.size+2),w1.heap.size,rfl,rfl,hb4.2.2.1,hb4.1,OwnI.of_blk (by rw[←eI];exact hb4.2.1) (by simp) (by omega),OwnI.of_blk (by rw[←eI];exact hb4.2.2.2) (by simp) (by omega),by omega,by omega,below4 _ _ _ _ _⟩
    refine ⟨_,rfl,by decide,by kernel_rfl,fun K hK=>?_⟩
    go_simp;refine hkB hK fun hHeld=>?_;clear hK K hHeld;refine hwO 5 fun K hK=>?_;go_simp;refine hkB hK fun hHeld=>?_;clear hK K hHeld;refine hwO 9 fun K hK=>?_;go_simp;refine hkB hK fun hHeld=>?_;clear hK K hHeld;refine fun _=>⟨by kernel_rfl,?_⟩
    simp only[List.drop_succ_cons,List.drop_zero];refine (‹∀(a':Act) (w':World),Met _ a' w'→_› _ _ ?_);go_meet;have eI:Array.replicate N (iv 0)=((List.replicate N (0:Int)).map iv).toArray:=by simp
    have hb4:=blk4 w1 #[.slice (some ⟨(w1.heap.size+3),0,none⟩) N N] (Array.replicate N (iv 0)) #[.slice (some ⟨(w1.heap.size+1),0,none⟩) N N] (Array.replicate N (iv 0)) 29 3 29 3;exact ⟨(w1.heap.size+1),(w1.heap.size+3),(w1.heap.size+2),w1.heap.size,rfl,rfl,hb4.2.2.1,hb4.1,OwnI.of_blk (by rw[←eI];exact hb4.2.1) (by simp) (by omega),OwnI.of_blk (by rw[←eI];exact hb4.2.2.2) (by simp) (by omega),by omega,by omega,below4 _ _ _ _ _⟩
   ·refine ⟨_,rfl,by decide,by kernel_rfl,fun K hK=>?_⟩
    go_simp;refine hkB hK fun hHeld=>?_;clear hK K hHeld;refine headW_many [2,6] (by kernel_rfl) (by decide) ?_
    intro i hi;simp only[List.mem_cons,List.not_mem_nil,or_false] at hi;rcases hi with rfl|rfl
    ·refine ⟨_,rfl,by decide,by kernel_rfl,fun K hK=>?_⟩
     go_simp;refine hkB hK fun hHeld=>?_;clear hK K hHeld;refine hwO 6 fun K hK=>?_;go_simp;refine hkB hK fun hHeld=>?_;clear hK K hHeld;refine hwO 8 fun K hK=>?_;go_simp;refine hkB hK fun hHeld=>?_;clear hK K hHeld;refine hwO 9 fun K hK=>?_;go_simp;refine hkB hK fun hHeld=>?_;clear hK K hHeld;refine fun _=>⟨by kernel_rfl,?_⟩
     simp only[List.drop_succ_cons,List.drop_zero];refine (‹∀(a':Act) (w':World),Met _ a' w'→_› _ _ ?_);go_meet;have eI:Array.replicate N (iv 0)=((List.replicate N (0:Int)).map iv).toArray:=by simp
     have hb4:=blk4 w1 #[.slice (some ⟨(w1.heap.size+1),0,none⟩) N N] (Array.replicate N (iv 0)) (Array.replicate N (iv 0)) #[.slice (some ⟨(w1.heap.size+2),0,none⟩) N N] 29 3 3 29;exact ⟨(w1.heap.size+2),(w1.heap.size+1),(w1.heap.size+3),w1.heap.size,rfl,rfl,hb4.2.2.2,hb4.1,OwnI.of_blk (by rw[←eI];exact hb4.2.2.1) (by simp) (by omega),OwnI.of_blk (by rw[←eI];exact hb4.2.1) (by simp) (by omega),by omega,by omega,below4 _ _ _ _ _⟩
    refine ⟨_,rfl,by decide,by kernel_rfl,fun K hK=>?_⟩
    go_simp;refine hkB hK fun hHeld=>?_;clear hK K hHeld;refine hwO 2 fun K hK=>?_;go_simp;refine hkB hK fun hHeld=>?_;clear hK K hHeld;refine hwO 8 fun K hK=>?_;go_simp;refine hkB hK fun hHeld=>?_;clear hK K hHeld;refine hwO 9 fun K hK=>?_;go_simp;refine hkB hK fun hHeld=>?_;clear hK K hHeld;refine fun _=>⟨by kernel_rfl,?_⟩
    simp only[List.drop_succ_cons,List.drop_zero];refine (‹∀(a':Act) (w':World),Met _ a' w'→_› _ _ ?_);go_meet;have eI:Array.replicate N (iv 0)=((List.replicate N (0:Int)).map iv).toArray:=by simp
    have hb4:=blk4 w1 #[.slice (some ⟨(w1.heap.size+1),0,none⟩) N N] (Array.replicate N (iv 0)) #[.slice (some ⟨(w1.heap.size+3),0,none⟩) N N] (Array.replicate N (iv 0)) 29 3 29 3;exact ⟨(w1.heap.size+3),(w1.heap.size+1),(w1.heap.size+2),w1.heap.size,rfl,rfl,hb4.2.2.1,hb4.1,OwnI.of_blk (by rw[←eI];exact hb4.2.2.2) (by simp) (by omega),OwnI.of_blk (by rw[←eI];exact hb4.2.1) (by simp) (by omega),by omega,by omega,below4 _ _ _ _ _⟩
   refine ⟨_,rfl,by decide,by kernel_rfl,fun K hK=>?_⟩
   go_simp;refine hkB hK fun hHeld=>?_;clear hK K hHeld;refine headW_many [2,5] (by kernel_rfl) (by decide) ?_
   intro i hi;simp only[List.mem_cons,List.not_mem_nil,or_false] at hi;rcases hi with rfl|rfl
   ·refine ⟨_,rfl,by decide,by kernel_rfl,fun K hK=>?_⟩
    go_simp;refine hkB hK fun hHeld=>?_;clear hK K hHeld;refine headW_many [5,8] (by kernel_rfl) (by decide) ?_
    intro i hi;simp only[List.mem_cons,List.not_mem_nil,or_false] at hi;rcases hi with rfl|rfl
    ·refine ⟨_,rfl,by decide,by kernel_rfl,fun K hK=>?_⟩
     go_simp;refine hkB hK fun hHeld=>?_;clear hK K hHeld;refine hwO 8 fun K hK=>?_;go_simp;refine hkB hK fun hHeld=>?_;clear hK K hHeld;refine hwO 9 fun K hK=>?_;go_simp;refine hkB hK fun hHeld=>?_;clear hK K hHeld;refine fun _=>⟨by kernel_rfl,?_⟩
     simp only[List.drop_succ_cons,List.drop_zero];refine (‹∀(a':Act) (w':World),Met _ a' w'→_› _ _ ?_);go_meet;have eI:Array.replicate N (iv 0)=((List.replicate N (0:Int)).map iv).toArray:=by simp
     have hb4:=blk4 w1 #[.slice (some ⟨(w1.heap.size+3),0,none⟩) N N] #[.slice (some ⟨(w1.heap.size+2),0,none⟩) N N] (Array.replicate N (iv 0)) (Array.replicate N (iv 0)) 29 29 3 3;exact ⟨(w1.heap.size+2),(w1.heap.size+3),(w1.heap.size+1),w1.heap.size,rfl,rfl,hb4.2.1,hb4.1,OwnI.of_blk (by rw[←eI];exact hb4.2.2.1) (by simp) (by omega),OwnI.of_blk (by rw[←eI];exact hb4.2.2.2) (by simp) (by omega),by omega,by omega,below4 _ _ _ _ _⟩
    refine ⟨_,rfl,by decide,by kernel_rfl,fun K hK=>?_⟩
    go_simp;refine hkB hK fun hHeld=>?_;clear hK K hHeld;refine hwO 5 fun K hK=>?_;go_simp;refine hkB hK fun hHeld=>?_;clear hK K hHeld;refine hwO 9 fun K hK=>?_;go_simp;refine hkB hK fun hHeld=>?_;clear hK K hHeld;refine fun _=>⟨by kernel_rfl,?_⟩
    simp only[List.drop_succ_cons,List.drop_zero];refine (‹∀(a':Act) (w':World),Met _ a' w'→_› _ _ ?_);go_meet;have eI:Array.replicate N (iv 0)=((List.replicate N (0:Int)).map iv).toArray:=by simp
    have hb4:=blk4 w1 #[.slice (some ⟨(w1.heap.size+3),0,none⟩) N N] #[.slice (some ⟨(w1.heap.size+2),0,none⟩) N N] (Array.replicate N (iv 0)) (Array.replicate N (iv 0)) 29 29 3 3;exact ⟨(w1.heap.size+2),(w1.heap.size+3),(w1.heap.size+1),w1.heap.size,rfl,rfl,hb4.2.1,hb4.1,OwnI.of_blk (by rw[←eI];exact hb4.2.2.1) (by simp) (by omega),OwnI.of_blk (by rw[←eI];exact hb4.2.2.2) (by simp) (by omega),by omega,by omega,below4 _ _ _ _ _⟩
   refine ⟨_,rfl,by decide,by kernel_rfl,fun K hK=>?_⟩
   go_simp;refine hkB hK fun hHeld=>?_;clear hK K hHeld;refine hwO 2 fun K hK=>?_;go_simp;refine hkB hK fun hHeld=>?_;clear hK K hHeld;refine hwO 8 fun K hK=>?_;go_simp;refine hkB hK fun hHeld=>?_;clear hK K hHeld;refine hwO 9 fun K hK=>?_;go_simp;refine hkB hK fun hHeld=>?_;clear hK K hHeld;refine fun _=>⟨by kernel_rfl,?_⟩
   simp only[List.drop_succ_cons,List.drop_zero];refine (‹∀(a':Act) (w':World),Met _ a' w'→_› _ _ ?_);go_meet;have eI:Array.replicate N (iv 0)=((List.replicate N (0:Int)).map iv).toArray:=by simp
   have hb4:=blk4 w1 #[.slice (some ⟨(w1.heap.size+2),0,none⟩) N N] #[.slice (some ⟨(w1.heap.size+3),0,none⟩) N N] (Array.replicate N (iv 0)) (Array.replicate N (iv 0)) 29 29 3 3;exact ⟨(w1.heap.size+3),(w1.heap.size+2),(w1.heap.size+1),w1.heap.size,rfl,rfl,hb4.2.1,hb4.1,OwnI.of_blk (by rw[←eI];exact hb4.2.2.2) (by simp) (by omega),OwnI.of_blk (by rw[←eI];exact hb4.2.2.1) (by simp) (by omega),by omega,by omega,below4 _ _ _ _ _⟩
 case rest=>
 rename World=>w2
 obtain ⟨gN,gB,bN,bB,rfl,rfl,hbN,hbB,hoN,hoB,hne,hge,hb12⟩:=hcut
 have hx2:w2.cell? ⟨gh,0,none⟩=some (.slice (some ⟨b,off,none⟩) N c):=(HH.out.below hb12 HH.out.lt).cell 0
 have hc2:w2.cell? ⟨b,off,none⟩=some (.int .i64 x):=by rw[(bcell hb12).1 _ _ hbA1];exact c1
 have HbA:=Lib.hid hbA1
 have C1:=Lib.hid c1
 have hbA2:b<w2.heap.size:=Nat.lt_of_lt_of_le hbA1 hb12.size
 have hghl2:gh<w2.heap.size:=Nat.lt_of_lt_of_le hhl1 hb12.size
 have HbN:=Lib.hid hbN
 have HbB:=Lib.hid hbB
 have HoN:=Lib.hid hoN
 have HoB:=Lib.hid hoB
 have Hne:=Lib.hid hne
 have Hge:=Lib.hid hge
 have HB12:=Lib.hid hb12
 have hN3:(0:Int)<(N:Int):=by omega
 clear hbN hbB hoN hoB hne hge hb12 hx1 c1 hbA1 hhl1
 obtain ⟨w3,hw3⟩:∃w3,w3=((((((w2.alloc (.cells (Array.replicate N (bo false)) 4)).alloc (.cells #[.slice (some ⟨w2.heap.size,0,none⟩) N N] 30)).alloc (.cells (Array.replicate N (bo false)) 4)).alloc (.cells #[.slice none 0 0] 29)).alloc (.cells #[.slice none 0 0] 113)).alloc (.cells #[.int .i64 0] 3)):=⟨_,rfl⟩
 have hb23:Below w2.heap.size w2 w3:=by rw[hw3];exact (((((Below.refl _ w2).alloc (Nat.le_refl _) _).alloc (by simp) _).alloc (by simp;omega) _).alloc (by simp;omega) _).alloc (by simp;omega) _ |>.alloc (by simp;omega) _
 have h6:=blk6 w2 (Array.replicate N (bo false)) #[.slice (some ⟨w2.heap.size,0,none⟩) N N] (Array.replicate N (bo false)) #[.slice none 0 0] #[.slice none 0 0] #[.int .i64 0] 4 30 4 29 113 3
 dsimp only at h6
 rw[←hw3] at h6
 have hz3:w3.heap.size=w2.heap.size+6:=by rw[hw3];simp
 obtain ⟨gO,hgO⟩:∃g,g=w2.heap.size:=⟨_,rfl⟩
 obtain ⟨bO,hbO⟩:∃g,g=w2.heap.size+1:=⟨_,rfl⟩
 obtain ⟨gI,hgI⟩:∃g,g=w2.heap.size+1+1:=⟨_,rfl⟩
 obtain ⟨bR,hbR⟩:∃g,g=w2.heap.size+1+1+1:=⟨_,rfl⟩
 obtain ⟨bW,hbW⟩:∃g,g=w2.heap.size+1+1+1+1:=⟨_,rfl⟩
 obtain ⟨bM,hbM⟩:∃g,g=w2.heap.size+1+1+1+1+1:=⟨_,rfl⟩
 rw[←hbM, ←hbW, ←hbR, ←hgI, ←hbO, ←hgO] at h6
 obtain ⟨k1,k2,k3,k4,k5,k6⟩:=h6
 obtain ⟨L,hL⟩:∃L:LA,L=⟨bM,bN,bB,bO,bR,bW,gN,gB,gO,gI⟩:=⟨_,rfl⟩
 have hNE:=Hne.out
 have hGE:=Hge.out
 have hz12:=HB12.out.size
 have hsep:LSep L w1.heap.size w3.heap.size:=by
  have e1:=HbN.out.lt;have e2:=HbB.out.lt;have e3:gN<w2.heap.size:=(Own.row HoN.out _ rfl).2;have e4:gB<w2.heap.size:=(Own.row HoB.out _ rfl).2;rw[hL];constructor
  all_goals (dsimp only;omega)
 have eB:Array.replicate N (bo false)=((List.replicate N false).map bo).toArray:=by simp
 have eI0:(List.replicate N (0:Int))=mi (List.replicate N 0):=by unfold mi;simp
 have hM3:LMem w3 L w3.heap.size N 0 (mi (List.replicate N 0)) (mi (List.replicate N 0)) (List.replicate N false) (List.replicate N false) [] []:=by
  rw[hL, ←eI0]
  exact ⟨k6,HbN.out.below hb23 HbN.out.lt,HbB.out.below hb23 HbB.out.lt,k2,Own.below HoN.out hb23 (Nat.le_refl _),Own.below HoB.out hb23 (Nat.le_refl _),OwnL.of_blk (by rw[←eB];exact k1) (by simp) (by omega),OwnL.of_blk (by rw[←eB];exact k3) (by simp) (by omega),
   ⟨none,0,k4,Own.nil _ _ _ _⟩,⟨none,0,k5,Own.nil _ _ _ _⟩⟩
 have hb13:=HB12.out.trans (hb23.mono hz12)
 have HM3:=Lib.hid hM3
 have HS:=Lib.hid hsep
 have HB13:=Lib.hid hb13
 have Hw3:=Lib.hid hw3
 have HA:=Lib.hid (show bM=w2.heap.size+1+1+1+1+1∧bW=w2.heap.size+1+1+1+1∧bR=w2.heap.size+1+1+1∧gI=w2.heap.size+1+1∧bO=w2.heap.size+1∧gO=w2.heap.size from ⟨hbM,hbW,hbR,hgI,hbO,hgO⟩)
 have HLe:=Lib.hid hL
 clear k1 k2 k3 k4 k5 k6 hM3 hsep hb23 hb13 hw3 hz3 hgO hbO hgI hbR hbW hbM hL hNE hGE eB eI0
 go_wp2_with (refine wpList_at 39 rfl ?_;refine wp_stop ?_)
 try refine ⟨?_⟩
 rw[←Hw3.out, ←HA.out.1, ←HA.out.2.1, ←HA.out.2.2.1, ←HA.out.2.2.2.1, ←HA.out.2.2.2.2.1, ←HA.out.2.2.2.2.2]
 have hbm:bM=L.bM:=by rw[HLe.out]
 have hbn:bN=L.bN:=by rw[HLe.out]
 have hbb:bB=L.bB:=by rw[HLe.out]
 have hbo:bO=L.bO:=by rw[HLe.out]
 have hbr:bR=L.bR:=by rw[HLe.out]
 have hbw:bW=L.bW:=by rw[HLe.out]
 have hgi:gI=L.gI:=by rw[HLe.out]
 rw[hbm,hbn,hbb,hbo,hbr,hbw,hgi]
 clear hbm hbn hbb hbo hbr hbw hgi
 have x3:w3.cell? ⟨gh,0,none⟩=some (.slice (some ⟨b,off,none⟩) N c):=(HH.out.below HB13.out HH.out.lt).cell 0
 have hghl3:=(HH.out.below HB13.out HH.out.lt).lt
 have c3:w3.cell? ⟨b,off,none⟩=some (.int .i64 x):=by
  have h1:=HB13.out;rw[(bcell h1).1 b off HbA.out,C1.out]
 have hb3:b<w3.heap.size:=Nat.lt_of_lt_of_le HbA.out HB13.out.size
 clear hx2 hc2 hbA2 hghl2 HbN HbB HoN HoB
 go_wp2_with fail
 have HE0:=Lib.hid (enter_any (L:=L) (b0:=w1.heap.size) 0 w3 HM3.out HS.out (Nat.le_refl _) HB13.out.size hN (by simp) (by simp) (by decide) (by decide) (by simp[mi]) (by simp[mi]) (by simp))
 refine HE0.out.mono ?_
 rintro e w4 ⟨rfl,hM4,hB34,-⟩
 have hM4':LMem w4 L w3.heap.size N ((1:Nat):Int) (mi ((List.replicate N 0).set 0 1)) (mi ((List.replicate N 0).set 0 1)) ((List.replicate N false).set 0 true) (List.replicate N false) (mi [0].reverse) (mw [(0,0)].reverse):=LMem.entered (row:=[]) (way:=[]) (met:=0) hM4
 have hW4:LW (nxN p.plain f h) w4 L w3.heap.size N ((List.replicate N 0).set 0 1) ((List.replicate N 0).set 0 1) ((List.replicate N false).set 0 true) (List.replicate N false) [0] [(0,0)] 1:=⟨LSt.start hN,hM4'⟩
 have HW4:=Lib.hid hW4
 have HB14:=Lib.hid (HB13.out.trans hB34)
 have hnl:∀v,v<N→(nxN p.plain f h v).length=(nxI p.plain f h v).length∧(nxN p.plain f h v).length≤2:=fun v hv=>by
  have e:(nxN p.plain f h v).length=(nxI p.plain f h v).length:=by unfold nxN;rw[List.length_map]
  refine ⟨e,?_⟩;rw[e];unfold nxI;split
  ·simp
  exact nextL_len _ _ _
 have hng:∀v,v<N→∀d,(hd:d<(nxN p.plain f h v).length)→(nxI p.plain f h v)[d]?=some ((nxN p.plain f h v)[d]:Int)∧(nxN p.plain f h v)[d]<N:=fun v hv d hd=>by
  have h1:d<(nxI p.plain f h v).length:=by rw[←(hnl v hv).1];exact hd
  obtain ⟨y0,y1⟩:=Hnx.out v hv _ (List.getElem_mem h1);have e2:(nxN p.plain f h v)[d]?=some ((nxI p.plain f h v)[d]).toNat:=by unfold nxN;rw[List.getElem?_map,List.getElem?_eq_getElem h1];rfl
  have e:=(List.getElem?_eq_some_iff.1 e2).2;rw[List.getElem?_eq_getElem h1];exact ⟨by rw[e];congr 1;omega,by rw[e];omega⟩
 have Hnl:=Lib.hid hnl
 have Hng:=Lib.hid hng
 have HmuN:=Lib.hid (show mu (nxN p.plain f h) ((List.replicate N 0).set 0 1) [(0,0)]≤4*N+4 from by
  have h1:=(hnl 0 hN).2;have h2:=hW4.st.cnt;unfold mu;simp only[List.map_cons,List.map_nil,List.sum_cons,List.sum_nil];omega)
 clear hM4 hM4' hW4 hB34 x3 c3 hb3 hghl3 hnl hng HE0 HM3 Hw3 HA
 go_wp2_with fail
 go_loopg [16] (4*N+4) (fun g _ wr=>∃(num back:List Nat) (on inn:List Bool) (row:List Nat) (way:List (Nat×Nat)) (met:Nat),LW (nxN p.plain f h) wr L w3.heap.size N num back on inn row way met∧mu (nxN p.plain f h) num way≤g∧Below w1.heap.size w1 wr)
 case atStart=>exact ⟨_,_,_,_,_,_,_,HW4.out,HmuN.out,HB14.out⟩
 case round=>
  rename World=>w5;clear HW4 HmuN HB14;obtain ⟨num,back,on,inn,row,way,met,hW,hmu,hB⟩:=hrel;have HW:=Lib.hid hW;have HB:=Lib.hid hB;cases way with
  |nil=>
   have hrow0:row=[]:=by
    cases row with
    |nil=>rfl
    |cons y l=>
     obtain ⟨z,hz,-⟩:=hW.st.ti.root y (List.mem_cons_self ..);cases hz
   subst hrow0;obtain ⟨A0,c0,k1,k2⟩:=hW.mem.way;have v0:w5.cell? ⟨L.bW,0,none⟩=some (.slice A0 0 c0):=k1.cell 0;have vl:=k1.lt;have hz5:w3.heap.size≤w5.heap.size∨True:=.inr trivial;have HinnL:=Lib.hid hW.mem.inn;have Hinn:=Lib.hid (show ∀u,bl inn u=true↔Reach (nxN p.plain f h) 0 u∧Cyc (nxN p.plain f h) u from fun u=>hW.st.ti.fin u)
   have hli:=hW.st.li;clear k1 k2 hW hz5;go_wp2_with fail
   go_loopw [23,199] (fun z i wr=>∃(k:Nat) (T:List Int) (A:Option Addr) (cT:Nat),k≤N∧i= .int .i64 k∧z= .slice A T.length cT∧OwnI wr w5.heap.size A T.length cT T∧T.length≤k∧Hid (T=((List.range k).filter fun u=>bl inn u).map fun (u:Nat)=>(u:Int))∧Below w5.heap.size w5 wr) (fun _ i _=>N-(intOf i).toNat)
   case atStart=>exact ⟨0,[],none,0,Nat.zero_le _,rfl,rfl,Own.nil _ _ _ _,Nat.le_refl _,rfl,Below.refl _ _⟩
   rename World=>w6;obtain ⟨k,T,A,cT,hk,rfl,rfl,hT,hTk,HT,hB6⟩:=hrel;by_cases hkN:k<N
   ·have g1:(k:Int)<(N:Int):=by omega
    have hI6:OwnL w6 0 (some ⟨L.gI,0,none⟩) N N inn:=Own.below HinnL.out hB6 (Nat.le_refl _);have c6:=OwnL.at_ hI6 k (by omega)
    have cl6:=(OwnL.room hI6 k (by omega)).2
    rw[bl_get] at c6;have HT6:=Lib.hid hT;have HB6:=Lib.hid hB6;have hz6:=hB6.size;have hrs:List.range (k+1)=List.range k++[k]:=List.range_succ;have Hrs:=Lib.hid hrs;clear hT hB6 hI6 hrs;cases hin:bl inn k with
    |true=>
     rw[hin] at c6;have HT7:=Lib.hid (show T++[(k:Int)]=((List.range (k+1)).filter fun u=>bl inn u).map fun (u:Nat)=>(u:Int) from by rw[Hrs.out,List.filter_append,List.map_append, ←HT.out];simp[hin])
     clear hin;go_wp2_with (refine wpList_at 208 rfl ?_;refine wp_stop ?_)
     try refine ⟨?_⟩
     refine wpList_push1 rfl (.tmp 205) (.tmp 207) eInt rfl rfl HT6.out rfl rfl (by unfold maxLen;omega) (by omega) hz6 ?_
     intro A7 c7 w7 hown7 hO7;have HT8:=Lib.hid (OwnI.push hown7);have HB7:=Lib.hid (HB6.out.trans (hO7.below (by omega) (fun q hq e=>by have:=(Own.row HT6.out q e).1;omega)))
     clear hown7 hO7;go_wp2_with fail
     exact ⟨⟨k+1,T++[(k:Int)],A7,c7,by omega,by go_num,by rw[List.length_append];rfl,HT8.out,by rw[List.length_append];simp;omega,HT7,HB7.out⟩,by simp[intOf];omega⟩
    |false=>
     rw[hin] at c6;have HT7:=Lib.hid (show T=((List.range (k+1)).filter fun u=>bl inn u).map fun (u:Nat)=>(u:Int) from by rw[Hrs.out,List.filter_append,List.map_append, ←HT.out];simp[hin])
     clear hin;go_wp2_with fail
     exact ⟨⟨k+1,T,A,cT,by omega,by go_num,rfl,HT6.out,by omega,HT7,HB6.out⟩,by simp[intOf];omega⟩
   obtain rfl:k=N:=by omega
   have hTR:T=loopsL (nxN p.plain f h) k:=by
    rw[HT.out];exact loopsL_eq Hinn.out
   subst hTR
   have hF:IntsPost w (loopsL (nxN p.plain f h) k) (.returned (.slice A (loopsL (nxN p.plain f h) k).length cT)) w6:=
    ⟨A,cT,rfl,hT.mono (Nat.le_trans HB1.out.size HB.out.size),HB1.out.trans ((HB.out.trans (hB6.mono HB.out.size)).mono HB1.out.size)⟩
   have HF2:=Lib.hid hF;generalize loopsL (nxN p.plain f h) k=T at*
   clear hF hT hB6 HT;go_wp2_with fail
   go_ret
   exact HF2.out
  |cons vd rest=>
   obtain ⟨v,d⟩:=vd;have hvN:v<N:=hW.st.top_lt;have hdl:d≤(nxN p.plain f h v).length:=hW.st.ti.wdone (v,d) (List.mem_cons_self ..);obtain ⟨hlen,hlen2⟩:=Hnl.out v hvN;have hwl:=hW.st.wl;have hmN:met≤N:=by have:=hW.st.cnt;omega
   rw[List.length_cons] at hwl;obtain ⟨AW,cW,k1,k2⟩:=hW.mem.way;rw[mwr_len] at k1 k2;obtain ⟨gW,rfl,hgW,hgWl⟩:=own_some k2 (by simp)
   have v0:w5.cell? ⟨L.bW,0,none⟩=some (.slice (some ⟨gW,0,none⟩) (rest.length+1) cW):=k1.cell 0;have vf0:w5.frozen? ⟨L.bW,0,none⟩=false:=k1.frozen 0;have vl:=k1.lt;have hj0:rest.length*2<((mw ((v,d)::rest).reverse).flatMap wayC).length:=by rw[wayC_len,mwr_len,List.length_cons];omega
   have hj1:rest.length*2+1<((mw ((v,d)::rest).reverse).flatMap wayC).length:=by rw[wayC_len,mwr_len,List.length_cons];omega
   have p0:w5.cell? ⟨gW,rest.length*2,none⟩=some (.int .i64 (v:Int)):=by
    have h1:=(own_at k2 _ hj0).1;rw[(List.getElem?_eq_some_iff.1 (way_at v d rest).1).2] at h1;exact h1
   have p1:w5.cell? ⟨gW,rest.length*2+1,none⟩=some (.int .i64 (d:Int)):=by
    have h1:=(own_at k2 _ hj1).1;rw[(List.getElem?_eq_some_iff.1 (way_at v d rest).2).2] at h1;exact h1
   have hX5:=HX.out.below hB HX.out.lt;have hF5:=HF.out.below hB HF.out.lt;have hH5:=HH.out.below hB HH.out.lt;have Hnc:=Lib.hid (nextC_any p f v h (some ⟨b,off,none⟩) c gh gx gf w5 (HP.out.below hB) (by rw[Hl.out];exact hH5) hX5 hF5 (HR.out.below hB) (by rw[Hl.out];exact hvN))
   have hm1:((rest.length:Int)+1-1)=(rest.length:Int):=by omega
   have hm2:IntKind.i64.wrap (rest.length:Int)=(rest.length:Int):=by rw[IntKind.wrap_i64];omega
   have hm3:(0:Int)<(rest.length:Int)+1:=by omega
   have K1:=Lib.hid k1;have K2:=Lib.hid k2;clear hX5 hF5 hH5 k1 k2 hW hB vf0 hj0 hj1;go_wp2_with fail
   refine Hnc.out.mono ?_;rintro e w6 ⟨A6,c6,rfl,hown6,hb56⟩;have HM6:=Lib.hid (HW.out.mem.below hb56);have HB6:=Lib.hid (HB.out.trans (hb56.mono HB.out.size));have K16:=Lib.hid (K1.out.below hb56 K1.out.lt);have K26:=Lib.hid (Own.below K2.out hb56 (Nat.le_refl _));have HG6:=Lib.hid hown6;have p06:w6.cell? ⟨gW,rest.length*2,none⟩=some (.int .i64 (v:Int)):=by rw[(bcell hb56).1 _ _ hgWl];exact p0
   have p16:w6.cell? ⟨gW,rest.length*2+1,none⟩=some (.int .i64 (d:Int)):=by rw[(bcell hb56).1 _ _ hgWl];exact p1
   have hgWl6:gW<w6.heap.size:=Nat.lt_of_lt_of_le hgWl hb56.size;have hz56:=hb56.size;clear p0 p1 v0 vl hown6 hb56 Hnc hgWl;rw[←hlen];by_cases hd:d<(nxN p.plain f h v).length
   ·obtain ⟨hgd,huN⟩:=Hng.out v hvN d hd;obtain ⟨u,hu⟩:∃u,u=(nxN p.plain f h v)[d]:=⟨_,rfl⟩;rw[←hu] at hgd huN;obtain ⟨ga,rfl,-,hgal⟩:=own_some HG6.out (by omega)
    have hjl:d<(nxI p.plain f h v).length:=(List.getElem?_eq_some_iff.1 hgd).1
    have e6:w6.cell? ⟨ga,d,none⟩=some (.int .i64 (u:Int)):=by
     have h1:=OwnI.at_ HG6.out d hjl;rw[(List.getElem?_eq_some_iff.1 hgd).2] at h1;exact h1
    have g1:(d:Int)<((nxN p.plain f h v).length:Int):=by omega
    have pf16:w6.frozen? ⟨gW,rest.length*2+1,none⟩=false:=(own_at K26.out _ (by rw[wayC_len,mwr_len,List.length_cons];omega)).2.1
    have huN2:(u:Int)<(N:Int):=by omega
    have HM7:=Lib.hid (HM6.out.putDone HS.out K16.out K26.out);have HB7:=Lib.hid (HB6.out.setCell (show w1.heap.size≤(⟨gW,rest.length*2+1,none⟩:Addr).block from by show _≤gW;have:=HB13.out.size;omega) (.int .i64 ((d:Int)+1)))
    have HK17:=Lib.hid (show Blk (w6.setCell ⟨gW,rest.length*2+1,none⟩ (.int .i64 ((d:Int)+1))) L.bW 113 #[.slice (some ⟨gW,0,none⟩) (rest.length+1) cW] from K16.out.far (p:=⟨gW,rest.length*2+1,none⟩) (by show L.bW≠gW;have:=HS.out.l_bW.2;omega) _)
    have hz7:w3.heap.size≤(w6.setCell ⟨gW,rest.length*2+1,none⟩ (.int .i64 ((d:Int)+1))).heap.size:=by have h1:=(Own.row K26.out gW rfl).1;simp;omega
    have hgW7:gW<(w6.setCell ⟨gW,rest.length*2+1,none⟩ (.int .i64 ((d:Int)+1))).heap.size:=by simpa using hgWl6
    have p07:(w6.setCell ⟨gW,rest.length*2+1,none⟩ (.int .i64 ((d:Int)+1))).cell? ⟨gW,rest.length*2,none⟩=some (.int .i64 (v:Int)):=by
     have e:=World.cell?_setCell_other (w:=w6) (a:=(⟨gW,rest.length*2+1,none⟩:Addr)) (b:=(⟨gW,rest.length*2,none⟩:Addr)) (v:=.int .i64 ((d:Int)+1)) (h:=by intro h;injection h with _ h;omega)
     exact e.trans p06
    have Hu:=Lib.hid hu;clear hu hgd hjl;go_wp2_with (refine wpList_at 82 rfl ?_;refine wp_stop ?_)
    try refine ⟨?_⟩
    generalize w6.setCell ⟨gW,rest.length*2+1,none⟩ (.int .i64 ((d:Int)+1))=w7 at*
    clear pf16 p06 p16 e6 hgal K16 K26 HG6 HM6 HB6 hgWl6;have hln:=HW.out.st.ln;have hlb:=HW.out.st.lb;have hlo:=HW.out.st.lo;have hli:=HW.out.st.li;have n0:w7.cell? ⟨L.bN,0,none⟩=some (.slice (some ⟨L.gN,0,none⟩) N N):=HM7.out.vn.cell 0;have nl0:=HM7.out.vn.lt
    have n1:w7.cell? ⟨L.gN,u,none⟩=some (.int .i64 (nl num u:Int)):=by
     have h1:=OwnI.at_ HM7.out.num u (by rw[mi_len];omega)
     rw[mi_get (by omega)] at h1
     exact h1
    have nl1:=(OwnI.room HM7.out.num u (by rw[mi_len];omega)).2
    by_cases h0:nl num u=0
    ·have h0b:((nl num u:Int)==0)=true:=by rw[h0];rfl
     have hgt:num[u]?=some 0:=by rw[List.getElem?_eq_getElem (by omega),nl_get,h0]
     have hSt:=HW.out.st.enter hd Hu.out h0 huN;have huv:u≠v:=fun e=>HW.out.st.ti.vis v HW.out.st.ti.top_row (by rw[←e];exact h0)
     have huvb:((u:Int)==(v:Int))=false:=by rw[beq_eq_false_iff_ne];omega
     have hmuE:=mu_enter (nx:=nxN p.plain f h) (num:=num) (rest:=rest) hd (n:=u) (Hnl.out u huN).2 hgt (x:=met+1) (by omega)
     have HSt:=Lib.hid hSt;have HmuE:=Lib.hid hmuE;have hrl:=HW.out.st.rl;have HEn:=Lib.hid (enter_any (L:=L) (b0:=w1.heap.size) u w7 HM7.out HS.out hz7 HB13.out.size huN (by rw[mir_len];omega) (by rw[mwr_len,List.length_cons];omega) (by omega) (by omega) (by rw[mi_len];exact hln) (by rw[mi_len];exact hlb) hlo)
     clear h0 hgt hSt hmuE huv;go_wp2_with fail
     refine HEn.out.mono ?_;rintro e w8 ⟨rfl,hM8,hB78,hptr⟩;obtain ⟨p08,hgW8⟩:=hptr gW cW (by rw[mwr_len];exact HK17.out) (rest.length*2) _ (way_at v (d+1) rest).1
     have HM8:=Lib.hid (LMem.entered hM8);have HB8:=Lib.hid (HB7.out.trans hB78);clear hM8 hB78 hptr n0 nl0 n1 nl1 p07 hgW7;go_wp2_with fail
     go_roundg (mu (nxN p.plain f h) (num.set u (met+1)) ((u,0)::(v,d+1)::rest))
     case measure=>exact Nat.lt_of_lt_of_le HmuE.out hmu
     case rel=>exact ⟨num.set u (met+1),back.set u (met+1),on.set u true,inn,u::row,(u,0)::(v,d+1)::rest,met+1,⟨HSt.out,HM8.out⟩,Nat.le_refl _,HB8.out⟩
    have h0b:((nl num u:Int)==0)=false:=by rw[beq_eq_false_iff_ne];omega
    have HmuS:=Lib.hid (mu_step (nx:=nxN p.plain f h) (num:=num) (rest:=rest) hd);have o0:w7.cell? ⟨L.bO,0,none⟩=some (.slice (some ⟨L.gO,0,none⟩) N N):=HM7.out.vo.cell 0;have ol0:=HM7.out.vo.lt
    have o1:w7.cell? ⟨L.gO,u,none⟩=some (.bool (bl on u)):=by
     have h1:=OwnL.at_ HM7.out.on u (by omega)
     rw[bl_get (by omega)] at h1
     exact h1
    have ol1:=(OwnL.room HM7.out.on u (by omega)).2
    cases hon:bl on u with
    |false=>
     rw[hon] at o1
     have huv:u≠v:=fun e=>by
      have h1:=(HW.out.st.ti.onrow v).2 HW.out.st.ti.top_row;rw[←e,hon] at h1;cases h1
     have huvb:((u:Int)==(v:Int))=false:=by rw[beq_eq_false_iff_ne];omega
     have HSt:=Lib.hid (HW.out.st.off hd Hu.out h0 hon);clear hon huv h0;go_wp2_with fail
     go_roundg (mu (nxN p.plain f h) (num) ((v,d+1)::rest))
     case measure=>exact Nat.lt_of_lt_of_le HmuS.out hmu
     case rel=>exact ⟨num,back,on,inn,row,(v,d+1)::rest,met,⟨HSt.out,HM7.out⟩,Nat.le_refl _,HB7.out⟩
    |true=>
     rw[hon] at o1;have HSt:=Lib.hid (HW.out.st.edge hd Hu.out hon);have q0:w7.cell? ⟨L.bB,0,none⟩=some (.slice (some ⟨L.gB,0,none⟩) N N):=HM7.out.vb.cell 0;have ql0:=HM7.out.vb.lt;have hvN2:(v:Int)<(N:Int):=by omega
     have q1:w7.cell? ⟨L.gB,v,none⟩=some (.int .i64 (nl back v:Int)):=by
      have h1:=OwnI.at_ HM7.out.back v (by rw[mi_len];omega)
      rw[mi_get (by omega)] at h1
      exact h1
     obtain ⟨qf1,ql1⟩:=OwnI.room HM7.out.back v (by rw[mi_len];omega)
     obtain ⟨mn,hmn⟩:∃m,m=min (nl back v) (nl num u):=⟨_,rfl⟩
     have hmin:∀w,(Builtin.min_ #[3,3] 3 #[.int .i64 (nl back v:Int),.int .i64 (nl num u:Int)]).run Try.prog w= .ok (.int .i64 (mn:Int)) w:=fun w=>by
      rw[hmn];exact run_min2 _ _ w
     have Hmn:=Lib.hid hmn;clear hon h0 hmn;go_wp2_with fail
     refine region_quiet_tail 18 (fun w'=>∃m,w'=w7.drewN m) (by kernel_rfl) (by kernel_rfl) ⟨1,rfl⟩ ?_
     simp only[List.take_succ_cons,List.take_zero,List.drop_succ_cons,List.drop_zero];repeat (go_big_quiet_step (fail))
     refine wpQuiet_nil ?_;rintro _ ⟨q,rfl⟩;have HM7q:=Lib.hid (HM7.out.below (below_drewN (Below.refl w7.heap.size w7) q));have HB7q:=Lib.hid (below_drewN HB7.out q);have q18:(w7.drewN q).cell? ⟨L.gB,v,none⟩=some (.int .i64 (nl back v:Int)):=q1;have qf18:(w7.drewN q).frozen? ⟨L.gB,v,none⟩=false:=qf1;have ql18:L.gB<(w7.drewN q).heap.size:=ql1;have p08:(w7.drewN q).cell? ⟨gW,rest.length*2,none⟩=some (.int .i64 (v:Int)):=p07;have hgW8:gW<(w7.drewN q).heap.size:=hgW7;have hgWb:w3.heap.size≤gW:=(Own.row K2.out gW rfl).1;generalize w7.drewN q=w8 at*
     clear n0 nl0 n1 nl1 o0 ol0 o1 ol1 q0 ql0 q1 qf1 ql1 p07 hgW7 hmin;have HM9:=Lib.hid (show LMem (w8.setCell ⟨L.gB,v,none⟩ (.int .i64 (mn:Int))) L w3.heap.size N (met:Int) (mi num) (mi (back.set v mn)) on inn (mi row.reverse) (mw ((v,d+1)::rest).reverse) from by rw[mi_set];exact HM7q.out.putBack HS.out v (mn:Int))
     have HB9:=Lib.hid (HB7q.out.setCell (show w1.heap.size≤(⟨L.gB,v,none⟩:Addr).block from HS.out.l_gB.1) (.int .i64 (mn:Int)))
     have p09:(w8.setCell ⟨L.gB,v,none⟩ (.int .i64 (mn:Int))).cell? ⟨gW,rest.length*2,none⟩=some (.int .i64 (v:Int)):=by
      have e:=World.cell?_setCell_other (w:=w8) (a:=(⟨L.gB,v,none⟩:Addr)) (b:=(⟨gW,rest.length*2,none⟩:Addr)) (v:=.int .i64 (mn:Int)) (h:=by intro h;injection h with h;have:=HS.out.l_gB.2;omega)
      exact e.trans p08
     have hgW9:gW<(w8.setCell ⟨L.gB,v,none⟩ (.int .i64 (mn:Int))).heap.size:=by simpa using hgW8
     go_wp2_with (refine wpList_at 117 rfl ?_;refine wp_stop ?_)
     try refine ⟨?_⟩
     generalize w8.setCell ⟨L.gB,v,none⟩ (.int .i64 (mn:Int))=w9 at*
     clear q18 qf18 ql18 p08 hgW8 HM7q HB7q;have hSt2:=HSt.out;rw[←Hmn.out] at hSt2;clear HSt;by_cases huv:u=v
     ·have huvb:((u:Int)==(v:Int))=true:=by rw[huv];exact beq_self_eq_true _
      rw[if_pos huv] at hSt2;have HSt:=Lib.hid hSt2;clear hSt2;have HM10:=Lib.hid (HM9.out.putInn HS.out u true);have HB10:=Lib.hid (HB9.out.setCell (show w1.heap.size≤(⟨L.gI,u,none⟩:Addr).block from HS.out.l_gI.1) (.bool true))
      have i1:=OwnL.at_ HM9.out.inn u (by omega)
      obtain ⟨if1,il1⟩:=OwnL.room HM9.out.inn u (by omega)
      generalize inn[u]'(by omega)=iu at i1
      rw[huv] at HM10;have hvu:(v:Int)=(u:Int):=by rw[huv]
      rw[hvu] at p09;clear huvb;have Huv:=Lib.hid huv;clear huv hvu;go_wp2_with fail
      rw[Huv.out];rw[Huv.out] at HB10;go_roundg (mu (nxN p.plain f h) (num) ((v,d+1)::rest))
      case measure=>exact Nat.lt_of_lt_of_le HmuS.out hmu
      case rel=>exact ⟨num,back.set v mn,on,inn.set v true,row,(v,d+1)::rest,met,⟨HSt.out,HM10.out⟩,Nat.le_refl _,HB10.out⟩
     have huvb:((u:Int)==(v:Int))=false:=by rw[beq_eq_false_iff_ne];omega
     rw[if_neg huv] at hSt2;have HSt:=Lib.hid hSt2;clear hSt2;clear huv;go_wp2_with fail
     go_roundg (mu (nxN p.plain f h) (num) ((v,d+1)::rest))
     case measure=>exact Nat.lt_of_lt_of_le HmuS.out hmu
     case rel=>exact ⟨num,back.set v mn,on,inn,row,(v,d+1)::rest,met,⟨HSt.out,HM9.out⟩,Nat.le_refl _,HB9.out⟩
   have hdE:d=(nxN p.plain f h v).length:=by omega
   have g1: ¬ (d:Int)<((nxN p.plain f h v).length:Int):=by omega
   have HdL:=Lib.hid hdE;have hcW:rest.length≤cW:=Nat.le_of_succ_le (Own.le_cap K26.out);have hcutW:=fun w'=>run_cut2 w' gW (rest.length+1) cW rest.length hcW;have v06:w6.cell? ⟨L.bW,0,none⟩=some (.slice (some ⟨gW,0,none⟩) (rest.length+1) cW):=K16.out.cell 0;have vf06:w6.frozen? ⟨L.bW,0,none⟩=false:=K16.out.frozen 0;have vl6:=K16.out.lt;have HM7:=Lib.hid (HM6.out.popWay HS.out K26.out);have HB7:=Lib.hid (HB6.out.setCell (show w1.heap.size≤(⟨L.bW,0,none⟩:Addr).block from HS.out.l_bW.1) (.slice (some ⟨gW,0,none⟩) rest.length cW))
   have hln:=HW.out.st.ln;have hlb:=HW.out.st.lb;have hlo:=HW.out.st.lo;have hli:=HW.out.st.li;have hvN2:(v:Int)<(N:Int):=by omega
   clear hdE hd;go_wp2_with (refine wpList_at 131 rfl ?_;refine wp_stop ?_)
   try refine ⟨?_⟩
   generalize w6.setCell ⟨L.bW,0,none⟩ (.slice (some ⟨gW,0,none⟩) rest.length cW)=w7 at*
   clear hcutW v06 vf06 vl6 p06 p16 HM6 HB6 HG6 K16 hgWl6;cases rest with
   |nil=>
    have hbn:=HW.out.st.ti.more;have HbE:=Lib.hid hbn;have xn0:w7.cell? ⟨L.bN,0,none⟩=some (.slice (some ⟨L.gN,0,none⟩) N N):=HM7.out.vn.cell 0;have xnl0:=HM7.out.vn.lt
    have xn1:w7.cell? ⟨L.gN,v,none⟩=some (.int .i64 (nl num v:Int)):=by
     have h1:=OwnI.at_ HM7.out.num v (by rw[mi_len];omega)
     rw[mi_get (by omega)] at h1
     exact h1
    have xnl1:=(OwnI.room HM7.out.num v (by rw[mi_len];omega)).2
    have xb0:w7.cell? ⟨L.bB,0,none⟩=some (.slice (some ⟨L.gB,0,none⟩) N N):=HM7.out.vb.cell 0;have xbl0:=HM7.out.vb.lt
    have y:w7.cell? ⟨L.gB,v,none⟩=some (.int .i64 (nl (back) v:Int)):=by
     have h1:=OwnI.at_ HM7.out.back v (by rw[mi_len];(try rw[List.length_set]);omega)
     rw[mi_get (by (try rw[List.length_set]);omega)] at h1
     exact h1
    obtain ⟨yf,yl⟩:=OwnI.room HM7.out.back v (by rw[mi_len];(try rw[List.length_set]);omega)
    have hneq:((nl back v:Int) != (nl num v:Int))=false:=by rw[hbn];simp
    have v07:∃A0 c0,w7.cell? ⟨L.bW,0,none⟩=some (.slice A0 0 c0):=by
     obtain ⟨A0,c0,k1,-⟩:=HM7.out.way;exact ⟨A0,c0,k1.cell 0⟩
    obtain ⟨A0,c0,v07⟩:=v07
    have vl7:L.bW<w7.heap.size:=by
     obtain ⟨A0,c0,k1,-⟩:=HM7.out.way;exact k1.lt
    clear hbn;go_wp2_with fail
    go_quiet (fail)
    have HM8:=Lib.hid (HM7.out.below (below_drewN (Below.refl w7.heap.size w7) nq));have HB8:=Lib.hid (below_drewN HB7.out nq);clear v07 vl7 xn0 xnl0 xn1 xnl1 xb0 xbl0 y yf yl hneq;generalize w7.drewN nq=w8 at*
    have hrow:∃r0 row0,row=r0::row0:=by
     have h1:=HW.out.st.ti.top_row;cases row with
     |nil=>cases h1
     |cons r0 row0=>exact ⟨r0,row0,rfl⟩
    obtain ⟨r0,row0,hrow⟩:=hrow;obtain ⟨AR,cR,r1,r2⟩:=HM8.out.row;rw[mir_len] at r1 r2;have hrl:=HW.out.st.rl;have hR1:w8.cell? ⟨L.bR,0,none⟩=some (.slice AR row.length cR):=r1.cell 0;have hRl:=r1.lt;rw[hrow] at r2;obtain ⟨gR,rfl,-,hgRl⟩:=own_some r2 (by simp)
    have hR2:w8.cell? ⟨gR,row0.length,none⟩=some (.int .i64 (r0:Int)):=by
     have h1:=(own_at r2 row0.length (by rw[List.length_map,mir_len,List.length_cons];omega)).1
     rw[(List.getElem?_eq_some_iff.1 (row_at r0 row0)).2] at h1;exact h1
    have hrow2:row.length=row0.length+1:=by rw[hrow];rfl
    rw[hrow2] at hR1 hrl;have hs1:((row0.length:Int)+1-1)=(row0.length:Int):=by omega
    have hs2:IntKind.i64.wrap (row0.length:Int)=(row0.length:Int):=by rw[IntKind.wrap_i64];omega
    obtain ⟨many,hmany⟩:∃m,m=decide (r0≠v):=⟨_,rfl⟩
    have hmb:((r0:Int) != (v:Int))=many:=by
     rw[hmany];by_cases e:r0=v
     ·rw[e];simp
     have h1:((r0:Int)==(v:Int))=false:=by rw[beq_eq_false_iff_ne];omega
     rw[bne,h1];simp[e]
    have Hrow:=Lib.hid hrow;have Hmany:=Lib.hid hmany;clear r1 r2 hrow hmany hrow2;go_wp2_with fail
    try rw[hmb]
    clear hR1 hRl hR2 hmb;go_loopg [22] row.length (fun g _ wr=>∃(pre suf:List Nat) (on' inn':List Bool),row=pre++suf∧v∉pre∧v∈suf∧suf.length≤g∧Off on inn on' inn' N many pre∧LMem wr L w3.heap.size N (met:Int) (mi num) (mi back) on' inn' (mi suf.reverse) (mw ([]:List (Nat×Nat)).reverse)∧Below w1.heap.size w1 wr)
    case atStart=>exact ⟨[],row,on,inn,rfl,by simp,HW.out.st.ti.top_row,Nat.le_refl _,Off.start HW.out.st.lo HW.out.st.li,HM8.out,HB8.out⟩
    rename World=>wA;rename Nat=>gk2;obtain ⟨pre,suf,on',inn',hps,hvp,hvs,hsg,hoff,hMA,hBA⟩:=hrel;cases suf with
    |nil=>cases hvs
    |cons y suf=>
     have hyr:y∈row:=by rw[hps];simp
     have hyN:y<N:=HW.out.st.ti.bnd y (HW.out.st.ti.vis y hyr);have hyN2:(y:Int)<(N:Int):=by omega
     have hsl:suf.length+1≤row.length:=by rw[hps,List.length_append,List.length_cons];omega
     have hrl5:=HW.out.st.rl;obtain ⟨AR,cR,r1,r2⟩:=hMA.row;rw[mir_len] at r1 r2;obtain ⟨gR,rfl,hgR1,hgRl⟩:=own_some r2 (by simp)
     have hR1:wA.cell? ⟨L.bR,0,none⟩=some (.slice (some ⟨gR,0,none⟩) (suf.length+1) cR):=r1.cell 0;have hRf:wA.frozen? ⟨L.bR,0,none⟩=false:=r1.frozen 0;have hRl:=r1.lt
     have hR2:wA.cell? ⟨gR,suf.length,none⟩=some (.int .i64 (y:Int)):=by
      have h1:=(own_at r2 suf.length (by rw[List.length_map,mir_len,List.length_cons];omega)).1
      rw[(List.getElem?_eq_some_iff.1 (row_at y suf)).2] at h1;exact h1
     have hs1:((suf.length:Int)+1-1)=(suf.length:Int):=by omega
     have hs2:IntKind.i64.wrap (suf.length:Int)=(suf.length:Int):=by rw[IntKind.wrap_i64];omega
     have hcR:suf.length≤cR:=Nat.le_of_succ_le (Own.le_cap r2);have hcut:=fun w'=>run_cut1 w' gR (suf.length+1) cR suf.length hcR;have HMB:=Lib.hid (hMA.popRow HS.out r2);have HBB:=Lib.hid (hBA.setCell (show w1.heap.size≤(⟨L.bR,0,none⟩:Addr).block from HS.out.l_bR.1) (.slice (some ⟨gR,0,none⟩) suf.length cR))
     have HMC:=Lib.hid (HMB.out.putOn HS.out y false);have HBC:=Lib.hid (HBB.out.setCell (show w1.heap.size≤(⟨L.gO,y,none⟩:Addr).block from HS.out.l_gO.1) (.bool false))
     have HMD:=Lib.hid (HMC.out.putInn HS.out y (bl inn' y||many));have HBD:=Lib.hid (HBC.out.setCell (show w1.heap.size≤(⟨L.gI,y,none⟩:Addr).block from HS.out.l_gI.1) (.bool (bl inn' y||many)))
     have Hoff:=Lib.hid (hoff.next hyN)
     have hlo':=hoff.lo;have hli':=hoff.li;have o0:(wA.setCell ⟨L.bR,0,none⟩ (.slice (some ⟨gR,0,none⟩) suf.length cR)).cell? ⟨L.bO,0,none⟩=some (.slice (some ⟨L.gO,0,none⟩) N N):=HMB.out.vo.cell 0;have ol0:=HMB.out.vo.lt;have o1:=OwnL.at_ HMB.out.on y (by omega)
     obtain ⟨of1,ol1⟩:=OwnL.room HMB.out.on y (by omega)
     generalize on'[y]'(by omega)=oy at o1
     clear r1 r2 hMA hBA hoff;go_wp2_with (refine wpList_at 181 rfl ?_;refine wp_stop ?_)
     try refine ⟨?_⟩
     generalize wA.setCell ⟨L.bR,0,none⟩ (.slice (some ⟨gR,0,none⟩) suf.length cR)=wB at*
     clear hR1 hRf hRl hR2 hcut
     have i1:(wB.setCell ⟨L.gO,y,none⟩ (.bool false)).cell? ⟨L.gI,y,none⟩=some (.bool (bl inn' y)):=by
      have h1:=OwnL.at_ HMC.out.inn y (by omega)
      rw[bl_get (by omega)] at h1
      exact h1
     obtain ⟨if1,il1⟩:=OwnL.room HMC.out.inn y (by omega)
     go_wp2_with (refine wpList_at 188 rfl ?_;refine wp_stop ?_)
     try refine ⟨?_⟩
     generalize wB.setCell ⟨L.gO,y,none⟩ (.bool false)=wC at*
     clear o0 ol0 o1 of1 ol1;cases hiy:bl inn' y with
     |true=>
      rw[hiy] at i1;rw[hiy,Bool.true_or] at HMD HBD Hoff;clear hiy;by_cases hyv:y=v
      ·have hyb:((y:Int)==(v:Int))=true:=by rw[hyv];exact beq_self_eq_true _
       have hSt:=HW.out.st.root_ HdL.out HbE.out (pre:=pre) (suf:=suf) (by rw[hps,hyv]) (many:=many) (by
        rw[Hmany.out,decide_eq_true_iff];have hr:=Hrow.out;constructor
        ·intro h0 h1;rw[h1,List.nil_append,hr] at hps;injection hps with h2 _
         exact h0 (h2.trans hyv)
        intro h0 h1;cases pre with
        |nil=>exact h0 rfl
        |cons q l=>
         rw[hr,List.cons_append] at hps;injection hps with h2 _
         exact hvp (by rw[←h2,h1];exact List.mem_cons_self ..)) (by rw[←hyv];exact Hoff.out)
       have HSt:=Lib.hid hSt;have HmuP:=Lib.hid (show mu (nxN p.plain f h) num ([]:List (Nat×Nat))<mu (nxN p.plain f h) num ((v,d)::([]:List (Nat×Nat))) from mu_pop)
       clear hSt hyv;go_wp2_with fail
       go_roundg (mu (nxN p.plain f h) num ([]:List (Nat×Nat)))
       case measure=>exact Nat.lt_of_lt_of_le HmuP.out hmu
       case rel=>exact ⟨num,back,_,_,suf,([]:List (Nat×Nat)),met,⟨HSt.out,HMD.out⟩,Nat.le_refl _,HBD.out⟩
      have hyb:((y:Int)==(v:Int))=false:=by rw[beq_eq_false_iff_ne];omega
      have hvs2:v∈suf:=(List.mem_cons.1 hvs).resolve_left (fun e=>hyv e.symm)
      have hvp2:v∉pre++[y]:=by
       intro h1;rcases List.mem_append.1 h1 with h1|h1
       ·exact hvp h1
       exact hyv (List.mem_singleton.1 h1).symm
      clear hyv;go_wp2_with fail
      go_roundg suf.length
      case measure=>rw[List.length_cons] at hsg;omega
      case rel=>exact ⟨pre++[y],suf,_,_,by rw[hps,List.append_assoc];rfl,hvp2,hvs2,Nat.le_refl _,Hoff.out,HMD.out,HBD.out⟩
     |false=>
      rw[hiy] at i1;rw[hiy,Bool.false_or] at HMD HBD Hoff;clear hiy;by_cases hyv:y=v
      ·have hyb:((y:Int)==(v:Int))=true:=by rw[hyv];exact beq_self_eq_true _
       have hSt:=HW.out.st.root_ HdL.out HbE.out (pre:=pre) (suf:=suf) (by rw[hps,hyv]) (many:=many) (by
        rw[Hmany.out,decide_eq_true_iff];have hr:=Hrow.out;constructor
        ·intro h0 h1;rw[h1,List.nil_append,hr] at hps;injection hps with h2 _
         exact h0 (h2.trans hyv)
        intro h0 h1;cases pre with
        |nil=>exact h0 rfl
        |cons q l=>
         rw[hr,List.cons_append] at hps;injection hps with h2 _
         exact hvp (by rw[←h2,h1];exact List.mem_cons_self ..)) (by rw[←hyv];exact Hoff.out)
       have HSt:=Lib.hid hSt;have HmuP:=Lib.hid (show mu (nxN p.plain f h) num ([]:List (Nat×Nat))<mu (nxN p.plain f h) num ((v,d)::([]:List (Nat×Nat))) from mu_pop)
       clear hSt hyv;go_wp2_with fail
       go_roundg (mu (nxN p.plain f h) num ([]:List (Nat×Nat)))
       case measure=>exact Nat.lt_of_lt_of_le HmuP.out hmu
       case rel=>exact ⟨num,back,_,_,suf,([]:List (Nat×Nat)),met,⟨HSt.out,HMD.out⟩,Nat.le_refl _,HBD.out⟩
      have hyb:((y:Int)==(v:Int))=false:=by rw[beq_eq_false_iff_ne];omega
      have hvs2:v∈suf:=(List.mem_cons.1 hvs).resolve_left (fun e=>hyv e.symm)
      have hvp2:v∉pre++[y]:=by
       intro h1;rcases List.mem_append.1 h1 with h1|h1
       ·exact hvp h1
       exact hyv (List.mem_singleton.1 h1).symm
      clear hyv;go_wp2_with fail
      go_roundg suf.length
      case measure=>rw[List.length_cons] at hsg;omega
      case rel=>exact ⟨pre++[y],suf,_,_,by rw[hps,List.append_assoc];rfl,hvp2,hvs2,Nat.le_refl _,Hoff.out,HMD.out,HBD.out⟩
   |cons vd1 rest1=>
    obtain ⟨v1,d1⟩:=vd1;obtain ⟨AV,cV,k1,k2⟩:=HM7.out.way;rw[mwr_len] at k1 k2;obtain ⟨gV,rfl,hgV,hgVl⟩:=own_some k2 (by simp)
    have v07:w7.cell? ⟨L.bW,0,none⟩=some (.slice (some ⟨gV,0,none⟩) (rest1.length+1) cV):=k1.cell 0;have vl7:=k1.lt
    have p07:w7.cell? ⟨gV,rest1.length*2,none⟩=some (.int .i64 (v1:Int)):=by
     have h1:=(own_at k2 (rest1.length*2) (by rw[wayC_len,mwr_len,List.length_cons];omega)).1
     rw[(List.getElem?_eq_some_iff.1 (way_at v1 d1 rest1).1).2] at h1;exact h1
    have hv1N:v1<N:=HW.out.st.next_lt;have hv1N2:(v1:Int)<(N:Int):=by omega
    have hs1:((rest1.length:Int)+1-1)=(rest1.length:Int):=by omega
    have hs2:IntKind.i64.wrap (rest1.length:Int)=(rest1.length:Int):=by rw[IntKind.wrap_i64];rw[List.length_cons] at hwl;omega
    have hs3:(0:Int)<(rest1.length:Int)+1:=by omega
    have xb0:w7.cell? ⟨L.bB,0,none⟩=some (.slice (some ⟨L.gB,0,none⟩) N N):=HM7.out.vb.cell 0;have xbl0:=HM7.out.vb.lt
    have y:w7.cell? ⟨L.gB,v,none⟩=some (.int .i64 (nl (back) v:Int)):=by
     have h1:=OwnI.at_ HM7.out.back v (by rw[mi_len];(try rw[List.length_set]);omega)
     rw[mi_get (by (try rw[List.length_set]);omega)] at h1
     exact h1
    obtain ⟨yf,yl⟩:=OwnI.room HM7.out.back v (by rw[mi_len];(try rw[List.length_set]);omega)
    have z:w7.cell? ⟨L.gB,v1,none⟩=some (.int .i64 (nl (back) v1:Int)):=by
     have h1:=OwnI.at_ HM7.out.back v1 (by rw[mi_len];(try rw[List.length_set]);omega)
     rw[mi_get (by (try rw[List.length_set]);omega)] at h1
     exact h1
    obtain ⟨zf,zl⟩:=OwnI.room HM7.out.back v1 (by rw[mi_len];(try rw[List.length_set]);omega)
    obtain ⟨mn,hmn⟩:∃m,m=min (nl back v1) (nl back v):=⟨_,rfl⟩
    have hmin:∀w,(Builtin.min_ #[3,3] 3 #[.int .i64 (nl back v1:Int),.int .i64 (nl back v:Int)]).run Try.prog w= .ok (.int .i64 (mn:Int)) w:=fun w=>by
     rw[hmn];exact run_min2 _ _ w
    have Hmn:=Lib.hid hmn;clear hmn k1 k2;go_wp2_with fail
    refine region_quiet_tail 12 (fun w'=>∃m,w'=w7.drewN m) (by kernel_rfl) (by kernel_rfl) ⟨1,rfl⟩ ?_
    simp only[List.take_succ_cons,List.take_zero,List.drop_succ_cons,List.drop_zero];repeat (go_big_quiet_step (fail))
    refine wpQuiet_nil ?_;rintro _ ⟨q,rfl⟩;have HM7q:=Lib.hid (HM7.out.below (below_drewN (Below.refl w7.heap.size w7) q));have HB7q:=Lib.hid (below_drewN HB7.out q);have z8:(w7.drewN q).cell? ⟨L.gB,v1,none⟩=some (.int .i64 (nl back v1:Int)):=z;have z8f:(w7.drewN q).frozen? ⟨L.gB,v1,none⟩=false:=zf;have z8l:L.gB<(w7.drewN q).heap.size:=zl;clear v07 vl7 p07 xb0 xbl0 y yf yl z zf zl hmin hgVl;generalize w7.drewN q=w8 at*
    have HM9:=Lib.hid (show LMem (w8.setCell ⟨L.gB,v1,none⟩ (.int .i64 (mn:Int))) L w3.heap.size N (met:Int) (mi num) (mi (back.set v1 mn)) on inn (mi row.reverse) (mw ((v1,d1)::rest1).reverse) from by rw[mi_set];exact HM7q.out.putBack HS.out v1 (mn:Int))
    have HB9:=Lib.hid (HB7q.out.setCell (show w1.heap.size≤(⟨L.gB,v1,none⟩:Addr).block from HS.out.l_gB.1) (.int .i64 (mn:Int)))
    go_wp2_with fail
    generalize w8.setCell ⟨L.gB,v1,none⟩ (.int .i64 (mn:Int))=w9 at*
    clear z8 z8f z8l HM7q HB7q
    have hvv:v≠v1:=fun e=>by
     have h1:=HW.out.st.ti.top_max (v1,d1) (List.mem_cons_self ..);dsimp only at h1;rw[e] at h1;omega
    have xn0:w9.cell? ⟨L.bN,0,none⟩=some (.slice (some ⟨L.gN,0,none⟩) N N):=HM9.out.vn.cell 0;have xnl0:=HM9.out.vn.lt
    have xn1:w9.cell? ⟨L.gN,v,none⟩=some (.int .i64 (nl num v:Int)):=by
     have h1:=OwnI.at_ HM9.out.num v (by rw[mi_len];omega)
     rw[mi_get (by omega)] at h1
     exact h1
    have xnl1:=(OwnI.room HM9.out.num v (by rw[mi_len];omega)).2
    have xb0:w9.cell? ⟨L.bB,0,none⟩=some (.slice (some ⟨L.gB,0,none⟩) N N):=HM9.out.vb.cell 0;have xbl0:=HM9.out.vb.lt
    have y:w9.cell? ⟨L.gB,v,none⟩=some (.int .i64 (nl (back.set v1 mn) v:Int)):=by
     have h1:=OwnI.at_ HM9.out.back v (by rw[mi_len];(try rw[List.length_set]);omega)
     rw[mi_get (by (try rw[List.length_set]);omega)] at h1
     exact h1
    obtain ⟨yf,yl⟩:=OwnI.room HM9.out.back v (by rw[mi_len];(try rw[List.length_set]);omega)
    have hbv:nl (back.set v1 mn) v=nl back v:=by rw[nl_set (by omega),upd_ne hvv]
    rw[hbv] at y;by_cases hb:nl back v=nl num v
    ·have hneq:((nl back v:Int) != (nl num v:Int))=false:=by rw[hb];simp
     have HbE:=Lib.hid hb
     have hM9:LMem w9 L w3.heap.size N (met:Int) (mi num) (mi back) on inn (mi row.reverse) (mw ((v1,d1)::rest1).reverse):=by
      have h1:=HM9.out;rw[Hmn.out,HW.out.st.still hb] at h1;exact h1
     have HM9':=Lib.hid hM9;clear hM9 hb hbv hvv;go_quiet (fail)
     have HM8:=Lib.hid (HM9'.out.below (below_drewN (Below.refl w9.heap.size w9) nq));have HB8:=Lib.hid (below_drewN HB9.out nq);clear xn0 xnl0 xn1 xnl1 xb0 xbl0 y yf yl hneq HM9 HM9';generalize w9.drewN nq=w10 at*
     have hrow:∃r0 row0,row=r0::row0:=by
      have h1:=HW.out.st.ti.top_row;cases row with
      |nil=>cases h1
      |cons r0 row0=>exact ⟨r0,row0,rfl⟩
     obtain ⟨r0,row0,hrow⟩:=hrow;obtain ⟨AR,cR,r1,r2⟩:=HM8.out.row;rw[mir_len] at r1 r2;have hrl:=HW.out.st.rl;have hR1:w10.cell? ⟨L.bR,0,none⟩=some (.slice AR row.length cR):=r1.cell 0;have hRl:=r1.lt;rw[hrow] at r2;obtain ⟨gR,rfl,-,hgRl⟩:=own_some r2 (by simp)
     have hR2:w10.cell? ⟨gR,row0.length,none⟩=some (.int .i64 (r0:Int)):=by
      have h1:=(own_at r2 row0.length (by rw[List.length_map,mir_len,List.length_cons];omega)).1
      rw[(List.getElem?_eq_some_iff.1 (row_at r0 row0)).2] at h1;exact h1
     have hrow2:row.length=row0.length+1:=by rw[hrow];rfl
     rw[hrow2] at hR1 hrl;have hs1:((row0.length:Int)+1-1)=(row0.length:Int):=by omega
     have hs2:IntKind.i64.wrap (row0.length:Int)=(row0.length:Int):=by rw[IntKind.wrap_i64];omega
     obtain ⟨many,hmany⟩:∃m,m=decide (r0≠v):=⟨_,rfl⟩
     have hmb:((r0:Int) != (v:Int))=many:=by
      rw[hmany];by_cases e:r0=v
      ·rw[e];simp
      have h1:((r0:Int)==(v:Int))=false:=by rw[beq_eq_false_iff_ne];omega
      rw[bne,h1];simp[e]
     have Hrow:=Lib.hid hrow;have Hmany:=Lib.hid hmany;clear r1 r2 hrow hmany hrow2;go_wp2_with fail
     try rw[hmb]
     clear hR1 hRl hR2 hmb;go_loopg [22] row.length (fun g _ wr=>∃(pre suf:List Nat) (on' inn':List Bool),row=pre++suf∧v∉pre∧v∈suf∧suf.length≤g∧Off on inn on' inn' N many pre∧LMem wr L w3.heap.size N (met:Int) (mi num) (mi back) on' inn' (mi suf.reverse) (mw ((v1,d1)::rest1).reverse)∧Below w1.heap.size w1 wr)
     case atStart=>exact ⟨[],row,on,inn,rfl,by simp,HW.out.st.ti.top_row,Nat.le_refl _,Off.start HW.out.st.lo HW.out.st.li,HM8.out,HB8.out⟩
     rename World=>wA;rename Nat=>gk2;obtain ⟨pre,suf,on',inn',hps,hvp,hvs,hsg,hoff,hMA,hBA⟩:=hrel;cases suf with
     |nil=>cases hvs
     |cons y suf=>
      have hyr:y∈row:=by rw[hps];simp
      have hyN:y<N:=HW.out.st.ti.bnd y (HW.out.st.ti.vis y hyr);have hyN2:(y:Int)<(N:Int):=by omega
      have hsl:suf.length+1≤row.length:=by rw[hps,List.length_append,List.length_cons];omega
      have hrl5:=HW.out.st.rl;obtain ⟨AR,cR,r1,r2⟩:=hMA.row;rw[mir_len] at r1 r2;obtain ⟨gR,rfl,hgR1,hgRl⟩:=own_some r2 (by simp)
      have hR1:wA.cell? ⟨L.bR,0,none⟩=some (.slice (some ⟨gR,0,none⟩) (suf.length+1) cR):=r1.cell 0;have hRf:wA.frozen? ⟨L.bR,0,none⟩=false:=r1.frozen 0;have hRl:=r1.lt
      have hR2:wA.cell? ⟨gR,suf.length,none⟩=some (.int .i64 (y:Int)):=by
       have h1:=(own_at r2 suf.length (by rw[List.length_map,mir_len,List.length_cons];omega)).1
       rw[(List.getElem?_eq_some_iff.1 (row_at y suf)).2] at h1;exact h1
      have hs1:((suf.length:Int)+1-1)=(suf.length:Int):=by omega
      have hs2:IntKind.i64.wrap (suf.length:Int)=(suf.length:Int):=by rw[IntKind.wrap_i64];omega
      have hcR:suf.length≤cR:=Nat.le_of_succ_le (Own.le_cap r2);have hcut:=fun w'=>run_cut1 w' gR (suf.length+1) cR suf.length hcR;have HMB:=Lib.hid (hMA.popRow HS.out r2);have HBB:=Lib.hid (hBA.setCell (show w1.heap.size≤(⟨L.bR,0,none⟩:Addr).block from HS.out.l_bR.1) (.slice (some ⟨gR,0,none⟩) suf.length cR))
      have HMC:=Lib.hid (HMB.out.putOn HS.out y false);have HBC:=Lib.hid (HBB.out.setCell (show w1.heap.size≤(⟨L.gO,y,none⟩:Addr).block from HS.out.l_gO.1) (.bool false))
      have HMD:=Lib.hid (HMC.out.putInn HS.out y (bl inn' y||many));have HBD:=Lib.hid (HBC.out.setCell (show w1.heap.size≤(⟨L.gI,y,none⟩:Addr).block from HS.out.l_gI.1) (.bool (bl inn' y||many)))
      have Hoff:=Lib.hid (hoff.next hyN)
      have hlo':=hoff.lo;have hli':=hoff.li;have o0:(wA.setCell ⟨L.bR,0,none⟩ (.slice (some ⟨gR,0,none⟩) suf.length cR)).cell? ⟨L.bO,0,none⟩=some (.slice (some ⟨L.gO,0,none⟩) N N):=HMB.out.vo.cell 0;have ol0:=HMB.out.vo.lt;have o1:=OwnL.at_ HMB.out.on y (by omega)
      obtain ⟨of1,ol1⟩:=OwnL.room HMB.out.on y (by omega)
      generalize on'[y]'(by omega)=oy at o1
      clear r1 r2 hMA hBA hoff;go_wp2_with (refine wpList_at 181 rfl ?_;refine wp_stop ?_)
      try refine ⟨?_⟩
      generalize wA.setCell ⟨L.bR,0,none⟩ (.slice (some ⟨gR,0,none⟩) suf.length cR)=wB at*
      clear hR1 hRf hRl hR2 hcut
      have i1:(wB.setCell ⟨L.gO,y,none⟩ (.bool false)).cell? ⟨L.gI,y,none⟩=some (.bool (bl inn' y)):=by
       have h1:=OwnL.at_ HMC.out.inn y (by omega)
       rw[bl_get (by omega)] at h1
       exact h1
      obtain ⟨if1,il1⟩:=OwnL.room HMC.out.inn y (by omega)
      go_wp2_with (refine wpList_at 188 rfl ?_;refine wp_stop ?_)
      try refine ⟨?_⟩
      generalize wB.setCell ⟨L.gO,y,none⟩ (.bool false)=wC at*
      clear o0 ol0 o1 of1 ol1;cases hiy:bl inn' y with
      |true=>
       rw[hiy] at i1;rw[hiy,Bool.true_or] at HMD HBD Hoff;clear hiy;by_cases hyv:y=v
       ·have hyb:((y:Int)==(v:Int))=true:=by rw[hyv];exact beq_self_eq_true _
        have hSt:=HW.out.st.root_ HdL.out HbE.out (pre:=pre) (suf:=suf) (by rw[hps,hyv]) (many:=many) (by
         rw[Hmany.out,decide_eq_true_iff];have hr:=Hrow.out;constructor
         ·intro h0 h1;rw[h1,List.nil_append,hr] at hps;injection hps with h2 _
          exact h0 (h2.trans hyv)
         intro h0 h1;cases pre with
         |nil=>exact h0 rfl
         |cons q l=>
          rw[hr,List.cons_append] at hps;injection hps with h2 _
          exact hvp (by rw[←h2,h1];exact List.mem_cons_self ..)) (by rw[←hyv];exact Hoff.out)
        have HSt:=Lib.hid hSt;have HmuP:=Lib.hid (show mu (nxN p.plain f h) num ((v1,d1)::rest1)<mu (nxN p.plain f h) num ((v,d)::((v1,d1)::rest1)) from mu_pop)
        clear hSt hyv;go_wp2_with fail
        go_roundg (mu (nxN p.plain f h) num ((v1,d1)::rest1))
        case measure=>exact Nat.lt_of_lt_of_le HmuP.out hmu
        case rel=>exact ⟨num,back,_,_,suf,((v1,d1)::rest1),met,⟨HSt.out,HMD.out⟩,Nat.le_refl _,HBD.out⟩
       have hyb:((y:Int)==(v:Int))=false:=by rw[beq_eq_false_iff_ne];omega
       have hvs2:v∈suf:=(List.mem_cons.1 hvs).resolve_left (fun e=>hyv e.symm)
       have hvp2:v∉pre++[y]:=by
        intro h1;rcases List.mem_append.1 h1 with h1|h1
        ·exact hvp h1
        exact hyv (List.mem_singleton.1 h1).symm
       clear hyv;go_wp2_with fail
       go_roundg suf.length
       case measure=>rw[List.length_cons] at hsg;omega
       case rel=>exact ⟨pre++[y],suf,_,_,by rw[hps,List.append_assoc];rfl,hvp2,hvs2,Nat.le_refl _,Hoff.out,HMD.out,HBD.out⟩
      |false=>
       rw[hiy] at i1;rw[hiy,Bool.false_or] at HMD HBD Hoff;clear hiy;by_cases hyv:y=v
       ·have hyb:((y:Int)==(v:Int))=true:=by rw[hyv];exact beq_self_eq_true _
        have hSt:=HW.out.st.root_ HdL.out HbE.out (pre:=pre) (suf:=suf) (by rw[hps,hyv]) (many:=many) (by
         rw[Hmany.out,decide_eq_true_iff];have hr:=Hrow.out;constructor
         ·intro h0 h1;rw[h1,List.nil_append,hr] at hps;injection hps with h2 _
          exact h0 (h2.trans hyv)
         intro h0 h1;cases pre with
         |nil=>exact h0 rfl
         |cons q l=>
          rw[hr,List.cons_append] at hps;injection hps with h2 _
          exact hvp (by rw[←h2,h1];exact List.mem_cons_self ..)) (by rw[←hyv];exact Hoff.out)
        have HSt:=Lib.hid hSt;have HmuP:=Lib.hid (show mu (nxN p.plain f h) num ((v1,d1)::rest1)<mu (nxN p.plain f h) num ((v,d)::((v1,d1)::rest1)) from mu_pop)
        clear hSt hyv;go_wp2_with fail
        go_roundg (mu (nxN p.plain f h) num ((v1,d1)::rest1))
        case measure=>exact Nat.lt_of_lt_of_le HmuP.out hmu
        case rel=>exact ⟨num,back,_,_,suf,((v1,d1)::rest1),met,⟨HSt.out,HMD.out⟩,Nat.le_refl _,HBD.out⟩
       have hyb:((y:Int)==(v:Int))=false:=by rw[beq_eq_false_iff_ne];omega
       have hvs2:v∈suf:=(List.mem_cons.1 hvs).resolve_left (fun e=>hyv e.symm)
       have hvp2:v∉pre++[y]:=by
        intro h1;rcases List.mem_append.1 h1 with h1|h1
        ·exact hvp h1
        exact hyv (List.mem_singleton.1 h1).symm
       clear hyv;go_wp2_with fail
       go_roundg suf.length
       case measure=>rw[List.length_cons] at hsg;omega
       case rel=>exact ⟨pre++[y],suf,_,_,by rw[hps,List.append_assoc];rfl,hvp2,hvs2,Nat.le_refl _,Hoff.out,HMD.out,HBD.out⟩
    have hneq:((nl back v:Int) != (nl num v:Int))=true:=by
     have h1:((nl back v:Int)==(nl num v:Int))=false:=by rw[beq_eq_false_iff_ne];omega
     rw[bne,h1];rfl
    have hSt:=HW.out.st.keep HdL.out hb;rw[←Hmn.out] at hSt;have HSt:=Lib.hid hSt;have HmuP:=Lib.hid (mu_pop (nx:=nxN p.plain f h) (num:=num) (w:=v) (d:=d) (rest:=(v1,d1)::rest1));clear hSt hb hbv hvv;go_quiet (fail)
    have HM8:=Lib.hid (HM9.out.below (below_drewN (Below.refl w9.heap.size w9) nq));have HB8:=Lib.hid (below_drewN HB9.out nq);go_wp2_with fail
    go_roundg (mu (nxN p.plain f h) (num) ((v1,d1)::rest1))
    case measure=>exact Nat.lt_of_lt_of_le HmuP.out hmu
    case rel=>exact ⟨num,back.set v1 mn,on,inn,row,(v1,d1)::rest1,met,⟨HSt.out,HM8.out⟩,Nat.le_refl _,HB8.out⟩
end Go.Proofs.Ytcmpmhlcfalbhaa
