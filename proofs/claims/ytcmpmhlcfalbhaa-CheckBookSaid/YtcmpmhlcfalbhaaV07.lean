import Derived.Test.YtcmpmhlcfalbhaaV02
import Derived.Test.YtcmpmhlcfalbhaaV06
import Derived.Test.YtcmpmhlcfalbhaaV04
import Derived.Deep.RegionHeld3
import Derived.Test.YtcmpmhlcfalbhaaV05
namespace Go.Proofs.Ytcmpmhlcfalbhaa
section
open Go.RowKit
def fnV (k:FuncId):Value:=.func (.func k) #[] #[]
def mayV (p:Nat):Value:=.func (.func 100) #[] #[.pointer (some ⟨p,0,none⟩)]
theorem size_operand:(Try.prog.info? 140).map (·.size)=some 3:=by kernel_rfl
set_option maxRecDepth 100000 in
theorem below_any (most:Int) (w:World):
  Calls Try.prog 95 #[.int .i64 most] w fun e w'=>e= .returned (.agg #[mayV w.heap.size,fnV 81,fnV 101])∧Blk w' w.heap.size 3 #[.int .i64 most]∧Below w.heap.size w w'∧w'.heap.size=w.heap.size+2:=by
 have hmf:∀(fn:Fn) (first cap:Array Value) (w:World),(Instr.makeFunc fn first cap).run Try.prog w= .ok (.func fn first cap) w:=fun _ _ _ _=>rfl
 go_enter Try.func95,Try.ntmps95
 go_wp2_with (refine wpList_at 3 rfl ?_;refine wp_stop ?_)
 refine ⟨?_⟩
 obtain ⟨w1,hw1⟩:∃w1,w1=(w.alloc (.cells #[.int .i64 most] 3)).alloc (.cells #[.nilFunc,.nilFunc,.nilFunc] 140):=⟨_,rfl⟩
 rw[←hw1]
 have hb1:Below w.heap.size w w1:=by rw[hw1];exact ((Below.refl _ _).alloc (Nat.le_refl _) _).alloc (by simp) _
 have hB1:Blk w1 w.heap.size 3 #[.int .i64 most]:=by rw[hw1];exact (Blk.new w _ _).alloc _
 have hO1:Blk w1 (w.heap.size+1) 140 #[.nilFunc,.nilFunc,.nilFunc]:=by
  rw[hw1];have h:=Blk.new (w.alloc (.cells #[.int .i64 most] 3)) 140 #[.nilFunc,.nilFunc,.nilFunc];rw[World.size_alloc] at h;exact h
 have hz1:w1.heap.size=w.heap.size+2:=by rw[hw1];simp
 have Hb1:=Lib.hid hb1
 have HB1:=Lib.hid hB1
 have HO1:=Lib.hid hO1
 have Hz1:=Lib.hid hz1
 clear hw1 hb1 hB1 hO1 hz1
 go_wp2_with (refine wpList_atStore 140 (.tmp 2) (.tmp 4) rfl ?_;refine wp_stop ?_)
 refine ⟨?_⟩
 refine wpList_storeB rfl 140 (.tmp 2) (.tmp 4) rfl [mayV w.heap.size,fnV 81,fnV 101] rfl rfl HO1.out size_operand rfl (by intro v hv;simp only[List.mem_cons,List.not_mem_nil,or_false] at hv;rcases hv with rfl|rfl|rfl<;>rfl) ?_
 intro w2 hO2 hset hz2'
 have hz2:w2.heap.size=w.heap.size+2:=hz2'.trans Hz1.out
 have hB2:=HB1.out.only hset (by omega)
 have hb2:Below w.heap.size w w2:=Hb1.out.trans (hset.below (by have:=Hz1.out;omega) fun p hp e=>by omega)
 have c0:w2.cell? ⟨w.heap.size+1,0,none⟩=some (mayV w.heap.size):=hO2.cell 0
 have c1:w2.cell? ⟨w.heap.size+1,1,none⟩=some (fnV 81):=hO2.cell 1
 have c2:w2.cell? ⟨w.heap.size+1,2,none⟩=some (fnV 101):=hO2.cell 2
 have hl2:=hO2.lt
 go_wp2_with fail
 refine bodyPost_ret (v:=.agg #[mayV w.heap.size,fnV 81,fnV 101]) ?_ rfl ⟨rfl,hB2,hb2,hz2⟩
 simp[results,Try.results95,go_sem,c0,c1,c2]
def opsL (p:Nat→Nat):List Value:=[fnV 89,fnV 90,fnV 91,fnV 92,fnV 93,fnV 94,
 mayV (p 2),fnV 81,fnV 101,mayV (p 3),fnV 81,fnV 101,mayV (p 4),fnV 81,fnV 101,
 mayV (p 5),fnV 81,fnV 101,mayV (p 6),fnV 81,fnV 101]
def mostL:Nat→Int
 |2=>64
 |3=>4096
 |4=>64
 |5=>5
 |_=>256
structure OpsAt (w:World) (g:Nat) (p:Nat→Nat):Prop where
 row:Blk w g 140 (opsL p).toArray
 box:∀k,2≤k→k≤6→Blk w (p k) 3 #[.int .i64 (mostL k)]
set_option maxRecDepth 100000 in
set_option maxHeartbeats 1000000 in
theorem operands_any (w:World):Calls Try.prog 80 #[] w fun e w'=>∃g p,e= .returned (.slice (some ⟨g,0,none⟩) 7 7)∧OpsAt w' g p∧w.heap.size≤g∧(∀k,2≤k→k≤6→w.heap.size≤p k)∧Below w.heap.size w w':=by
 go_enter Try.func80,Try.ntmps80
 go_wp2_with (refine wpList_atStore 140 (.tmp 1) (.tmp 3) rfl ?_;refine wp_stop ?_)
 refine ⟨?_⟩;refine wpList_storeB rfl 140 (.tmp 1) (.tmp 3) rfl [fnV 89,fnV 90,fnV 91] rfl rfl (Blk.new w 140 #[.nilFunc,.nilFunc,.nilFunc]) size_operand rfl (by intro v hv;simp only[List.mem_cons,List.not_mem_nil,or_false] at hv;rcases hv with rfl|rfl|rfl<;>rfl) ?_
 intro w1 hA1 hO1 hz1;have hb1:Below w.heap.size w w1:=((Below.refl _ _).alloc (Nat.le_refl _) _).trans ((hO1.below (B:=w.heap.size) (by simp) fun q hq e=>by omega))
 have hz1':w1.heap.size=w.heap.size+1:=hz1.trans (by simp)
 have HA1:=Lib.hid hA1;have Hb1:=Lib.hid hb1;have Hz1:=Lib.hid hz1';clear hA1 hO1 hz1 hb1 hz1';go_wp2_with (refine wpList_atStore 140 (.tmp 2) (.tmp 4) rfl ?_;refine wp_stop ?_)
 refine ⟨?_⟩;refine wpList_storeB rfl 140 (.tmp 2) (.tmp 4) rfl [fnV 92,fnV 93,fnV 94] rfl rfl (Blk.new w1 140 #[.nilFunc,.nilFunc,.nilFunc]) size_operand rfl (by intro v hv;simp only[List.mem_cons,List.not_mem_nil,or_false] at hv;rcases hv with rfl|rfl|rfl<;>rfl) ?_
 intro w2 hB2 hO2 hz2;have hb12:Below w1.heap.size w1 w2:=((Below.refl _ _).alloc (Nat.le_refl _) _).trans ((hO2.below (B:=w1.heap.size) (by simp) fun q hq e=>by omega))
 have hA2:=HA1.out.below hb12 (by have:=Hz1.out;omega)
 have HB2:=Lib.hid (Hb1.out.trans (hb12.mono (by have:=Hz1.out;omega)))
 have hz2':w2.heap.size=w.heap.size+2:=hz2.trans (by have:=Hz1.out;simp;omega)
 have e1:=Hz1.out;rw[e1] at hB2;have a0:w2.cell? ⟨w.heap.size,0,none⟩=some (fnV 89):=hA2.cell 0;have a1:w2.cell? ⟨w.heap.size,1,none⟩=some (fnV 90):=hA2.cell 1;have a2:w2.cell? ⟨w.heap.size,2,none⟩=some (fnV 91):=hA2.cell 2;have b0:w2.cell? ⟨w.heap.size+1,0,none⟩=some (fnV 92):=hB2.cell 0;have b1:w2.cell? ⟨w.heap.size+1,1,none⟩=some (fnV 93):=hB2.cell 1;have b2:w2.cell? ⟨w.heap.size+1,2,none⟩=some (fnV 94):=hB2.cell 2;have hl1:=hA2.lt;have hl2:=hB2.lt;have Hz2:=Lib.hid hz2';rw[e1];clear hB2 hO2 hz2 hb12 hA2 HA1 Hb1 Hz1 e1 hz2';unfold fnV at a0 a1 a2 b0 b1 b2;go_wp2_with fail
 try simp only[Act.put]
 have hS:∀w':World,Below w2.heap.size w2 w'→w'.cell? ⟨w.heap.size,0,none⟩=some (.func (.func 89) #[] #[])∧w'.cell? ⟨w.heap.size,1,none⟩=some (.func (.func 90) #[] #[])∧w'.cell? ⟨w.heap.size,2,none⟩=some (.func (.func 91) #[] #[])∧w'.cell? ⟨w.heap.size+1,0,none⟩=some (.func (.func 92) #[] #[])∧w'.cell? ⟨w.heap.size+1,1,none⟩=some (.func (.func 93) #[] #[])∧w'.cell? ⟨w.heap.size+1,2,none⟩=some (.func (.func 94) #[] #[]):=fun w' h=>⟨by rw[(bcell h).1 _ _ hl1];exact a0,by rw[(bcell h).1 _ _ hl1];exact a1,by rw[(bcell h).1 _ _ hl1];exact a2,by rw[(bcell h).1 _ _ hl2];exact b0,by rw[(bcell h).1 _ _ hl2];exact b1,by rw[(bcell h).1 _ _ hl2];exact b2⟩
 refine region_heldT 7 (fun w'=>w'.cell? ⟨w.heap.size,0,none⟩=some (.func (.func 89) #[] #[])∧w'.cell? ⟨w.heap.size,1,none⟩=some (.func (.func 90) #[] #[])∧w'.cell? ⟨w.heap.size,2,none⟩=some (.func (.func 91) #[] #[])∧w'.cell? ⟨w.heap.size+1,0,none⟩=some (.func (.func 92) #[] #[])∧w'.cell? ⟨w.heap.size+1,1,none⟩=some (.func (.func 93) #[] #[])∧w'.cell? ⟨w.heap.size+1,2,none⟩=some (.func (.func 94) #[] #[])) (by kernel_rfl) (by decide) ?_
 refine HeadW.take 0 (v:=.agg #[.func (.func 89) #[] #[],.func (.func 90) #[] #[],.func (.func 91) #[] #[]]) rfl (by kernel_rfl) (by kernel_rfl) (by kernel_rfl) (by decide) (by decide) (fun _ _ _ hL=>seqB_ready hL.1) (by kernel_rfl) (by kernel_rfl) (fun _ _ _ h=>h) (hS _ (below_drewN (Below.refl _ _) 1)) (.inl ⟨by rfl,by intro w hSw;(try dsimp only at hSw);go_simp⟩) ?_
 simp only[Act.put,List.setIfInBounds_toArray];refine HeadW.take 1 (v:=.agg #[.func (.func 92) #[] #[],.func (.func 93) #[] #[],.func (.func 94) #[] #[]]) rfl (by kernel_rfl) (by kernel_rfl) (by kernel_rfl) (by decide) (by decide) (fun _ _ _ hL=>seqB_ready hL.1) (by kernel_rfl) (by kernel_rfl) (fun _ _ _ h=>h) (hS _ (below_drewN (Below.refl _ _) 1)) (.inl ⟨by rfl,by intro w hSw;(try dsimp only at hSw);go_simp⟩) ?_
 simp only[Act.put];obtain ⟨v2,hv2⟩:∃v2,v2=w2.drew:=⟨_,rfl⟩;have hb2v:Below w2.heap.size w2 v2:=by rw[hv2];exact below_drewN (Below.refl _ _) 1
 have hz2v:v2.heap.size=w2.heap.size:=by rw[hv2];rfl
 have Hz2v:=Lib.hid hz2v;have Hb2v:=Lib.hid hb2v;have HS:=Lib.hid hS;rw[←hv2];clear hv2 hz2v hb2v hS a0 a1 a2 b0 b1 b2;refine HeadW.one 2 rfl (by decide) (by kernel_rfl) fun K hK=>?_
 go_simp;refine (below_any 64 v2).mono ?_;rintro e v3 ⟨rfl,hQ2,hbv3,hzv3⟩;have HQ2:=Lib.hid hQ2;have Hsv3:=Lib.hid hbv3;have Hzv3:=Lib.hid hzv3;have Hbv3:=Lib.hid (Hb2v.out.trans (hbv3.mono (by have:=(Hb2v.out).size;omega)))
 refine hK.out _ _ (HS.out _ Hbv3.out) (fun hHeld=>?_);clear hK K hHeld hQ2 hbv3 hzv3;refine HeadW.one 3 rfl (by decide) (by kernel_rfl) fun K hK=>?_
 go_simp;refine (below_any 4096 v3).mono ?_;rintro e v4 ⟨rfl,hQ3,hbv4,hzv4⟩;have HQ3:=Lib.hid hQ3;have Hsv4:=Lib.hid hbv4;have Hzv4:=Lib.hid hzv4;have Hbv4:=Lib.hid (Hbv3.out.trans (hbv4.mono (by have:=(Hbv3.out).size;omega)))
 refine hK.out _ _ (HS.out _ Hbv4.out) (fun hHeld=>?_);clear hK K hHeld hQ3 hbv4 hzv4;refine HeadW.one 4 rfl (by decide) (by kernel_rfl) fun K hK=>?_
 go_simp;refine (below_any 64 v4).mono ?_;rintro e v5 ⟨rfl,hQ4,hbv5,hzv5⟩;have HQ4:=Lib.hid hQ4;have Hsv5:=Lib.hid hbv5;have Hzv5:=Lib.hid hzv5;have Hbv5:=Lib.hid (Hbv4.out.trans (hbv5.mono (by have:=(Hbv4.out).size;omega)))
 refine hK.out _ _ (HS.out _ Hbv5.out) (fun hHeld=>?_);clear hK K hHeld hQ4 hbv5 hzv5;refine HeadW.one 5 rfl (by decide) (by kernel_rfl) fun K hK=>?_
 go_simp;refine (below_any 5 v5).mono ?_;rintro e v6 ⟨rfl,hQ5,hbv6,hzv6⟩;have HQ5:=Lib.hid hQ5;have Hsv6:=Lib.hid hbv6;have Hzv6:=Lib.hid hzv6;have Hbv6:=Lib.hid (Hbv5.out.trans (hbv6.mono (by have:=(Hbv5.out).size;omega)))
 refine hK.out _ _ (HS.out _ Hbv6.out) (fun hHeld=>?_);clear hK K hHeld hQ5 hbv6 hzv6;refine HeadW.one 6 rfl (by decide) (by kernel_rfl) fun K hK=>?_
 go_simp;refine (below_any 256 v6).mono ?_;rintro e v7 ⟨rfl,hQ6,hbv7,hzv7⟩;have HQ6:=Lib.hid hQ6;have Hsv7:=Lib.hid hbv7;have Hzv7:=Lib.hid hzv7;have Hbv7:=Lib.hid (Hbv6.out.trans (hbv7.mono (by have:=(Hbv6.out).size;omega)))
 refine hK.out _ _ (HS.out _ Hbv7.out) (fun hHeld=>?_);clear hK K hHeld hQ6 hbv7 hzv7;refine fun _=>⟨by kernel_rfl,?_⟩
 go_wp2_with fail
 have s2:=Hz2.out;have s2v:=Hz2v.out;have s3:=Hzv3.out;have s4:=Hzv4.out;have s5:=Hzv5.out;have s6:=Hzv6.out;have s7:=Hzv7.out;obtain ⟨p,hp⟩:∃p:Nat→Nat,p=fun k=>if k=2 then v2.heap.size else if k=3 then v3.heap.size else if k=4 then v4.heap.size else if k=5 then v5.heap.size else v6.heap.size:=⟨_,rfl⟩
 have q2:p 2=v2.heap.size:=by rw[hp];rfl
 have q3:p 3=v3.heap.size:=by rw[hp];rfl
 have q4:p 4=v4.heap.size:=by rw[hp];rfl
 have q5:p 5=v5.heap.size:=by rw[hp];rfl
 have q6:p 6=v6.heap.size:=by rw[hp];rfl
 have hBb:Below w.heap.size w v7:=HB2.out.trans (Hbv7.out.mono (by omega))
 have ha:Below v7.heap.size v7 (v7.alloc (.cells (opsL p).toArray 140)):=(Below.refl _ _).alloc (Nat.le_refl _) _;have hrow:Blk (v7.alloc (.cells (opsL p).toArray 140)) v7.heap.size 140 (opsL p).toArray:=Blk.new _ _ _;have x2:=(((HQ2.out.below Hsv4.out (by omega)).below Hsv5.out (by omega)).below Hsv6.out (by omega)).below Hsv7.out (by omega)
 have x3:=((HQ3.out.below Hsv5.out (by omega)).below Hsv6.out (by omega)).below Hsv7.out (by omega)
 have x4:=(HQ4.out.below Hsv6.out (by omega)).below Hsv7.out (by omega)
 have x5:=HQ5.out.below Hsv7.out (by omega)
 have hops:OpsAt (v7.alloc (.cells (opsL p).toArray 140)) v7.heap.size p:=by
  refine ⟨hrow,fun k h1 h2=>?_⟩;have hk:k=2∨k=3∨k=4∨k=5∨k=6:=by omega
  rcases hk with rfl|rfl|rfl|rfl|rfl
  ·rw[q2];exact x2.below ha (by omega)
  ·rw[q3];exact x3.below ha (by omega)
  ·rw[q4];exact x4.below ha (by omega)
  ·rw[q5];exact x5.below ha (by omega)
  rw[q6];exact HQ6.out.below ha (by omega)
 have hpl:∀k,2≤k→k≤6→w.heap.size≤p k:=fun k h1 h2=>by
  have hk:k=2∨k=3∨k=4∨k=5∨k=6:=by omega
  rcases hk with rfl|rfl|rfl|rfl|rfl
  ·rw[q2];omega
  ·rw[q3];omega
  ·rw[q4];omega
  ·rw[q5];omega
  rw[q6];omega
 rw[←q2, ←q3, ←q4, ←q5, ←q6];go_ret
 exact ⟨v7.heap.size,p,rfl,hops,by omega,hpl,hBb.trans (ha.mono (by omega))⟩
end
section
open Go.RowKit
structure Ins where
 op:Int
 a:Int
def insCells (i:Ins):List Value:=[.int .i64 i.op,.int .i64 i.a]
def mayB (kd:Nat) (a:Int):Bool:=if kd=0 then decide (a=0) else if kd=1 then true else decide (0≤a)&&decide (a<mostL kd)
def kindN (op:Int):Nat:=(rowAt shapeTab op).1.2.1.toNat
def isOp (op:Int):Bool:=(rowAt shapeTab op).2
def argL (kd:Nat) (a:Int):List UInt8:=if kd=0 then [] else if kd=1 then formL (foldN a) else formL a.toNat
def insL (i:Ins):List UInt8:=formL i.op.toNat++argL (kindN i.op) i.a
def encFrom:List UInt8→List Ins→List UInt8×Int
 |out,[]=>(out,0)
 |out,i::l=>if isOp i.op=false then ([],111) else if mayB (kindN i.op) i.a=false then ([],112) else encFrom (out++insL i) l
def encL (l:List Ins):List UInt8×Int:=if 4096<l.length then ([],2) else encFrom [] l
def kindsOk:Bool:=shapeTab.all fun r=>decide (0≤r.2.1)&&decide (r.2.1≤6)
theorem kinds_ok:kindsOk=true:=by decide+kernel
theorem isOp_row {op:Int} (h:isOp op=true):∃n:Nat,(n:Int)=op∧n<46∧∃r,shapeTab[n]?=some r∧(rowAt shapeTab op).1=r∧r.2.1=(kindN op:Int)∧kindN op≤6:=by
 unfold isOp at h;unfold kindN;unfold rowAt at h ⊢;split at h
 ·rename_i h0
  rw[if_pos h0];cases hr:shapeTab[op.toNat]? with
  |none=>rw[hr] at h;cases h
  |some r=>
   rw[hr] at h;have hl:=(List.getElem?_eq_some_iff.1 hr).1;have hk:=List.all_eq_true.1 kinds_ok r (List.mem_of_getElem? hr);simp only[Bool.and_eq_true,decide_eq_true_eq] at hk
   refine ⟨op.toNat,by omega,by
    have:shapeTab.length=46:=by decide+kernel
    omega,r,hr,rfl,?_,?_⟩
   ·dsimp only;omega
   dsimp only;omega
 cases h
section
variable {w:World}
theorem may0_any (a:Int):Calls Try.prog 89 #[.int .i64 a] w fun e w'=>e= .returned (.bool (decide (a=0)))∧w'=w:=by
 go_enter Try.func89,Try.ntmps89
 go_wp2_with fail
 go_ret
 have e:(a==0)=decide (a=0):=by by_cases h:a=0<;>simp[h]
 exact ⟨by simp[e],rfl⟩
theorem may1_any (a:Int):Calls Try.prog 92 #[.int .i64 a] w fun e w'=>e= .returned (.bool true)∧w'=w:=by
 go_enter Try.func92,Try.ntmps92
 go_wp2_with fail
 go_ret
 exact ⟨rfl,rfl⟩
theorem mayK_any (a most:Int) (p:Nat) (h:Blk w p 3 #[.int .i64 most]):Calls Try.prog 100 #[.int .i64 a,.pointer (some ⟨p,0,none⟩)] w fun e w'=>e= .returned (.bool (decide (0≤a)&&decide (a<most)))∧w'=w:=by
 have hc:w.cell? ⟨p,0,none⟩=some (.int .i64 most):=h.cell 0;have hl:=h.lt;clear h;by_cases h0:0≤a
 ·go_enter Try.func100,Try.ntmps100
  go_wp2_with fail
  go_ret
  exact ⟨by simp[h0],rfl⟩
 go_enter Try.func100,Try.ntmps100
 go_wp2_with fail
 go_ret
 exact ⟨by rw[show decide (0≤a)=false from decide_eq_false (by omega)];simp,rfl⟩
theorem put0_any (x:Value) (a:Int):Calls Try.prog 90 #[x,.int .i64 a] w fun e w'=>e= .returned (.tuple #[])∧w'=w:=by
 go_enter Try.func90,Try.ntmps90
 go_wp2_with fail
 go_end0
 exact ⟨rfl,rfl⟩
end
theorem opsL_get (p:Nat→Nat) (k:Nat) (h2:2≤k) (h6:k≤6):(opsL p)[k*3]?=some (mayV (p k))∧(opsL p)[k*3+1]?=some (fnV 81)∧(opsL p)[k*3+2]?=some (fnV 101):=by
 have hk:k=2∨k=3∨k=4∨k=5∨k=6:=by omega
 rcases hk with rfl|rfl|rfl|rfl|rfl<;>exact ⟨rfl,rfl,rfl⟩
end
section
open Go.RowKit
theorem putL_room {xs ys:List UInt8} (h:xs.length+ys.length≤4194304):putL xs 0 ys=(xs++ys,0):=by
 unfold putL;rw[if_pos rfl,if_pos h]
theorem formL_le9 (u:Nat):(formL u).length≤9:=formL_le u
def takeL (kd:Nat) (bs:List UInt8) (a:Nat):Except Int (Int×Nat):=
 if kd=0 then .ok (0,a) else if kd=1 then (match numberL bs a with| .ok (u,k)=> .ok (unfoldN u,a+k)| .error f=> .error f)
 else (match rNumL bs a with| .ok (u,k)=> .ok ((u:Int),a+k)| .error f=> .error f)
def TakePost (kd g c a:Nat) (A:Option Addr) (bs:List UInt8) (w:World) (e:Ending) (w':World):Prop:=
 match takeL kd bs a with
 | .ok (n,a2)=>e= .returned (.int .i64 n)∧Rd w' g A c bs a2 false 0∧Only (fun b=>b=g) w w'
 | .error f=>Fell w g A c bs f e w'
structure KindAt (p:Nat→Nat) (kd:Nat) (mf:FuncId) (mc:Array Value) (pf tf:FuncId):Prop where
 cm:∀args wz,(callFunc mf args).run Try.prog wz= .ok (.enter mf args) wz
 cp:∀args wz,(callFunc pf args).run Try.prog wz= .ok (.enter pf args) wz
 ct:∀args wz,(callFunc tf args).run Try.prog wz= .ok (.enter tf args) wz
 m0:(opsL p)[kd*3]?=some (.func (.func mf) #[] mc)
 m1:(opsL p)[kd*3+1]?=some (.func (.func pf) #[] #[])
 m2:(opsL p)[kd*3+2]?=some (.func (.func tf) #[] #[])
 may:∀(a:Int) (wz:World) (go:Nat),OpsAt wz go p→Calls Try.prog mf (#[.int .i64 a]++mc) wz fun e w'=>e= .returned (.bool (mayB kd a))∧w'=wz
 put:∀(a:Int) (wz:World) (base gw:Nat) (A':Option Addr) (c':Nat) (xs:List UInt8),mayB kd a=true→ -9223372036854775808≤a→a≤9223372036854775807→Wr wz base gw A' c' xs 0→xs.length≤1000000→base≤wz.heap.size→
  Calls Try.prog pf #[.pointer (some ⟨gw,0,none⟩),.int .i64 a] wz fun e w'=>e= .returned (.tuple #[])∧WrPost base gw A' wz (xs++argL kd a) 0 w'
 take:∀(wz:World) (g c a:Nat) (A:Option Addr) (bs:List UInt8),Rd wz g A c bs a false 0→bs.length≤140737488351232→Calls Try.prog tf #[.pointer (some ⟨g,0,none⟩)] wz (TakePost kd g c a A bs wz)
theorem take0_any (w:World) (x:Value):Calls Try.prog 91 #[x] w fun e w'=>e= .returned (.int .i64 0)∧w'=w:=by
 go_enter Try.func91,Try.ntmps91
 go_wp2_with fail
 go_ret
 exact ⟨rfl,rfl⟩
theorem kind_at (p:Nat→Nat) (kd:Nat) (hk:kd≤6):∃mf mc pf tf,KindAt p kd mf mc pf tf:=by
 by_cases h0:kd=0
 ·subst h0;refine ⟨89,#[],90,91,fun _ _=>by kernel_rfl,fun _ _=>by kernel_rfl,fun _ _=>by kernel_rfl,rfl,rfl,rfl,fun a wz go h=>?_,fun a wz base gw A' c' xs hm h1 h2 hW hx hb=>?_,fun wz g c a A bs hrd hl=>?_⟩
  ·exact (may0_any a).mono fun e w' h=>h
  ·refine (put0_any _ a).mono ?_;rintro e w' ⟨rfl,rfl⟩;rw[show argL 0 a=[] from rfl,List.append_nil]
   exact ⟨rfl,hW.refl_post⟩
  refine (take0_any wz _).mono ?_;rintro e w' ⟨rfl,rfl⟩;exact ⟨rfl,hrd,Only.refl _ _⟩
 by_cases h1:kd=1
 ·subst h1;refine ⟨92,#[],93,94,fun _ _=>by kernel_rfl,fun _ _=>by kernel_rfl,fun _ _=>by kernel_rfl,rfl,rfl,rfl,fun a wz go h=>?_,fun a wz base gw A' c' xs hm h1 h2 hW hx hb=>?_,fun wz g c a A bs hrd hl=>?_⟩
  ·exact (may1_any a).mono fun e w' h=>h
  ·have h:=int_any base gw A' c' xs 0 a wz hW h1 (by omega) (by omega) hb
   have h9:=formL_le9 (foldN a);rw[putL_room (by omega)] at h
   exact h
  refine (rInt_any g c a A bs wz hrd hl).mono ?_;intro e w' h;unfold TakePost takeL;rw[if_neg (by decide),if_pos rfl]
  cases hn:numberL bs a with
  |error f=>rw[hn] at h;exact h
  |ok q=>rw[hn] at h;exact h
 have h2:2≤kd:=by omega
 obtain ⟨e0,e1,e2⟩:=opsL_get p kd h2 hk;refine ⟨100,#[.pointer (some ⟨p kd,0,none⟩)],81,101,fun _ _=>by kernel_rfl,fun _ _=>by kernel_rfl,fun _ _=>by kernel_rfl,e0,e1,e2,fun a wz go h=>?_,fun a wz base gw A' c' xs hm h3 h4 hW hx hb=>?_,fun wz g c a A bs hrd hl=>?_⟩
 ·have hm:=mayK_any a (mostL kd) (p kd) (h.box kd h2 hk);unfold mayB;rw[if_neg h0,if_neg h1];exact hm
 ·unfold mayB at hm;rw[if_neg h0,if_neg h1] at hm;simp only[Bool.and_eq_true,decide_eq_true_eq] at hm;have h:=num_any base gw A' c' xs 0 a wz hW (by omega) (by omega) hb
  have h9:=formL_le9 a.toNat;unfold numL at h;rw[if_neg (by omega),putL_room (by omega)] at h
  unfold argL;rw[if_neg h0,if_neg h1];exact h
 refine (rNum_any g c a A bs wz hrd hl).mono ?_;intro e w' h;unfold TakePost takeL;rw[if_neg h0,if_neg h1];cases hn:rNumL bs a with
 |error f=>rw[hn] at h;exact h
 |ok q=>rw[hn] at h;exact h
end
section
open Go.RowKit
attribute [local go_sem] rowVal
theorem insCells_len (l:List Ins):(l.flatMap insCells).length=l.length*2:=by
 induction l with
 |nil=>rfl
 |cons x l ih=>rw[List.flatMap_cons,List.length_append,ih,List.length_cons];simp[insCells];omega
theorem insCells_get (l:List Ins) (k j:Nat) (hk:k<l.length) (hj:j<2):(l.flatMap insCells)[k*2+j]?=(insCells l[k])[j]?:=by
 induction l generalizing k with
 |nil=>cases hk
 |cons x l ih=>
  rw[List.flatMap_cons];cases k with
  |zero=>
   rw[Nat.zero_mul,Nat.zero_add,List.getElem?_append_left (by simp[insCells];omega)]
   rfl
  |succ k=>
   rw[List.getElem?_append_right (by simp[insCells];omega),show (k+1)*2+j-(insCells x).length=k*2+j from by simp[insCells];omega]
   exact ih k (by simpa using hk)
structure InsOk (i:Ins):Prop where
 o1: -9223372036854775808≤i.op
 o2:i.op≤9223372036854775807
 a1: -9223372036854775808≤i.a
 a2:i.a≤9223372036854775807
def EncPost (w:World) (r:List UInt8×Int) (e:Ending) (w':World):Prop:=
 ∃A2 c2,e= .returned (.tuple #[.slice A2 r.1.length c2,.int .i64 r.2])∧OwnB w' w.heap.size A2 r.1.length c2 r.1∧Below w.heap.size w w'
set_option maxRecDepth 100000 in
set_option maxHeartbeats 2000000 in
theorem encode_any (A:Option Addr) (c:Nat) (l:List Ins) (w:World) (hR:RV w A (l.flatMap insCells)) (hok:∀i∈l,InsOk i) (hl:l.length≤maxLen):
  Calls Try.prog 61 #[.slice A l.length c] w (EncPost w (encL l)):=by
 unfold maxLen at hl
 have HR:=Lib.hid hR
 have Hok:=Lib.hid hok
 clear hR hok
 by_cases hbig:4096<l.length
 ·have g1:(4096:Int)<(l.length:Int):=by omega
  have e:encL l=([],2):=by unfold encL;rw[if_pos hbig]
  rw[e];go_enter Try.func61,Try.ntmps61
  go_wp2_with fail
  go_ret2
  exact ⟨none,0,rfl,Own.nil _ _ _ _,Below.refl _ _⟩
 have g1: ¬ (4096:Int)<(l.length:Int):=by omega
 have e:encL l=encFrom [] l:=by unfold encL;rw[if_neg hbig]
 rw[e]
 obtain ⟨R,hRe⟩:∃R,R=encFrom [] l:=⟨_,rfl⟩
 rw[←hRe]
 have HRe:=Lib.hid hRe
 clear e hRe
 go_enter Try.func61,Try.ntmps61
 go_wp2_with fail
 refine (new_any _).mono ?_
 rintro e w1 ⟨rfl,hw1⟩
 have hW1:Wr w1 w.heap.size w.heap.size none 0 [] 0:=by rw[hw1];exact ⟨Blk.new w _ _,Own.nil _ _ _ _⟩
 have hb1:Below w.heap.size w w1:=by rw[hw1];exact (Below.refl _ _).alloc (Nat.le_refl _) _
 have hz1:=hW1.blk.lt
 clear hw1
 go_wp2_with fail
 refine (operands_any w1).mono ?_
 rintro e w2 ⟨go,p,rfl,hops,hgo,hpk,hb2⟩
 have hz2:=hb2.size
 go_wp2_with fail
 refine (shapes_any w2).mono ?_
 rintro e w3 ⟨gs,rfl,hgs,htab,hb3⟩
 have htab:TabAt w3 gs shapeTab:=htab
 have hz3:=hb3.size
 have hops3:OpsAt w3 go p:=⟨hops.row.below hb3 hops.row.lt,fun k h1 h2=>(hops.box k h1 h2).below hb3 (hops.box k h1 h2).lt⟩
 have hW3:Wr w3 w3.heap.size w.heap.size none 0 [] 0:=⟨(hW1.blk.below hb2 hz1).below hb3 (by omega),Own.nil _ _ _ _⟩
 have Hb3:=Lib.hid (hb1.trans ((hb2.mono (by omega)).trans (hb3.mono (by omega))))
 have Hops:=Lib.hid hops3
 have Htab:=Lib.hid htab
 have HW3:=Lib.hid hW3
 have hgsl:=htab.lt
 have hgol:=hops3.row.lt
 have hpl:∀k,2≤k→k≤6→p k<w3.heap.size:=fun k h1 h2=>(hops3.box k h1 h2).lt
 have hgw:w.heap.size<w3.heap.size:=by omega
 have hgne:w.heap.size≠gs∧w.heap.size≠go∧∀k,2≤k→k≤6→w.heap.size≠p k:=⟨by omega,by omega,fun k h1 h2=>by have:=hpk k h1 h2;omega⟩
 clear hops hops3 hW1 hW3 hb1 hb2 hb3 hgo hgs hpk htab hz1 hz2 hz3
 go_wp2_with fail
 go_loopw [20] (fun i wr=>∃(k:Nat) (A':Option Addr) (c':Nat) (xs:List UInt8),k≤l.length∧i= .int .i64 k∧Wr wr w3.heap.size w.heap.size A' c' xs 0∧xs.length≤18*k∧Hid (R=encFrom xs (l.drop k))∧Only (fun b=>b=w.heap.size) w3 wr) (fun i _=>l.length-(intOf i).toNat)
 case atStart=>exact ⟨0,none,0,[],Nat.zero_le _,rfl,HW3.out,by simp,HRe,Only.refl _ _⟩
 case round=>
  rename World=>w4;obtain ⟨k,A',c',xs,hk,rfl,hW,hxl,hRk,hO⟩:=hrel;have hz4:=hO.size;have hwl:=hW.blk.lt;have HW:=Lib.hid hW;have HO:=Lib.hid hO;clear hW hO;by_cases hlt:k<l.length
  ·have g2:(k:Int)<(l.length:Int):=by omega
   have hB4:Below w.heap.size w w4:=Hb3.out.trans (HO.out.below (by omega) fun b hb e=>by omega)
   have hRr:=HR.out.below hB4;obtain ⟨b,off,rfl,hb,hc⟩:=hRr.at_ (by rw[insCells_len];omega)
   have q0:=hc _ _ (insCells_get l k 0 hlt (by omega))
   have q1:=hc _ _ (insCells_get l k 1 hlt (by omega))
   have hx:=Hok.out _ (List.getElem_mem hlt);have hdr:l.drop k=l[k]::l.drop (k+1):=List.drop_eq_getElem_cons hlt;rw[hdr] at hRk;obtain ⟨x,hxe⟩:∃x:Ins,x=l[k]:=⟨_,rfl⟩;rw[←hxe] at q0 q1 hx hRk;rw[←Nat.add_assoc] at q1;replace q0:w4.cell? ⟨b,off+k*2,none⟩=some (.int .i64 x.op):=q0
   replace q1:w4.cell? ⟨b,off+k*2+1,none⟩=some (.int .i64 x.a):=q1
   have HB4:=Lib.hid hB4;clear hc hRr hdr hxe hB4;go_wp2_with fail
   obtain ⟨w5,hw5⟩:∃w5,w5=w4.alloc (.cells #[.int .i64 x.op,.int .i64 x.a] 45):=⟨_,rfl⟩;rw[←hw5];have hb45:Below w4.heap.size w4 w5:=by rw[hw5];exact (Below.refl _ _).alloc (Nat.le_refl _) _
   have hX5:Blk w5 w4.heap.size 45 #[.int .i64 x.op,.int .i64 x.a]:=by rw[hw5];exact Blk.new _ _ _
   have htab4:TabAt w4 gs shapeTab:=(Blk.only (show Blk w3 gs 89 (tabCells shapeTab).toArray from Htab.out) HO.out (by omega))
   have hops4:OpsAt w4 go p:=⟨Hops.out.row.only HO.out (by omega),fun k h1 h2=>(Hops.out.box k h1 h2).only HO.out (by have:=hgne.2.2 k h1 h2;omega)⟩
   have hrow:=row_any gs 46 x.op w5 shapeTab rfl (by omega) (htab4.below hb45)
   obtain ⟨rv,hrv⟩:∃rv,rv=(rowAt shapeTab x.op).1:=⟨_,rfl⟩;rw[←hrv,show (rowAt shapeTab x.op).2=isOp x.op from rfl] at hrow
   have Hrv:=Lib.hid hrv;have Hrow:=Lib.hid hrow;have Hb45:=Lib.hid hb45;have HX5:=Lib.hid hX5;have Hops4:=Lib.hid hops4;have Htab4:=Lib.hid htab4;have hz5:=hX5.lt;clear hrow hw5 hb45 hX5 hops4 htab4 hrv q0 q1;refine Hrow.out.mono ?_;rintro e w6 ⟨rfl,hb56⟩;have hX6:=HX5.out.below hb56 hz5;have x0:w6.cell? ⟨w4.heap.size,0,none⟩=some (.int .i64 x.op):=hX6.cell 0;have x1:w6.cell? ⟨w4.heap.size,1,none⟩=some (.int .i64 x.a):=hX6.cell 1;have hz6:=hX6.lt;have Hb46:=Lib.hid (Hb45.out.trans (hb56.mono (by omega)))
   have HX6:=Lib.hid hX6;clear hb56 hX6 Hrow HX5 Hb45;cases hop:isOp x.op with
   |false=>
    have hRx:R=([],111):=by rw[hRk.out];unfold encFrom;rw[if_pos hop]
    have hB:Below w.heap.size w w6:=HB4.out.trans (Hb46.out.mono (by omega))
    have HF:=Lib.hid (show ∀w',Below w6.heap.size w6 w'→EncPost w R (.returned (.tuple #[.slice none 0 0,.int .i64 111])) w' from fun w' h=>by rw[hRx];exact ⟨none,0,rfl,Own.nil _ _ _ _,hB.trans (h.mono (by have:=hB.size;omega))⟩)
    clear hRx hB;go_wp2_with fail
    go_ret2
    exact HF.out _ ((Below.refl _ _).alloc (Nat.le_refl _) _)
   |true=>
    obtain ⟨nn,hnn,hn46,r,hr1,hr2,hkd,hk6⟩:=isOp_row hop;rw[←Hrv.out] at hr2;subst hr2;obtain ⟨kd,hkde⟩:∃kd,kd=kindN x.op:=⟨_,rfl⟩;rw[←hkde] at hkd hk6;have Hkde:=Lib.hid hkde;clear hkde;obtain ⟨nm,q1,q2,q3⟩:=rv;dsimp only at hkd;subst hkd;have hge:(0:Int)≤(kd:Int):=by omega
    have hl7:(kd:Int)<7:=by omega
    go_wp2_with (refine wpList_at 36 rfl ?_;refine wp_stop ?_)
    refine ⟨?_⟩;obtain ⟨w7,hw7⟩:∃w7,w7=w6.alloc (.cells #[.string ⟨nm.toArray⟩,.int .i64 (kd:Int),.int .i64 q2,.int .i64 q3] 89):=⟨_,rfl⟩;rw[←hw7];have hb67:Below w6.heap.size w6 w7:=by rw[hw7];exact (Below.refl _ _).alloc (Nat.le_refl _) _
    have hz67:=hb67.size;have hb47:Below w4.heap.size w4 w7:=Hb46.out.trans (hb67.mono (by omega))
    have hops7:OpsAt w7 go p:=⟨Hops4.out.row.below hb47 (by omega),fun k h1 h2=>(Hops4.out.box k h1 h2).below hb47 (by have:=hpl k h1 h2;omega)⟩
    obtain ⟨mf,mc,pf,tf,hK⟩:=kind_at p kd hk6;have y0:w7.cell? ⟨go,kd*3,none⟩=some (.func (.func mf) #[] mc):=by rw[hops7.row.at_];exact hK.m0
    have y1:w7.cell? ⟨go,kd*3+1,none⟩=some (.func (.func pf) #[] #[]):=by rw[hops7.row.at_];exact hK.m1
    have y2:w7.cell? ⟨go,kd*3+2,none⟩=some (.func (.func tf) #[] #[]):=by rw[hops7.row.at_];exact hK.m2
    have x0':w7.cell? ⟨w4.heap.size,0,none⟩=some (.int .i64 x.op):=by rw[(bcell hb67).1 _ _ hz6];exact x0
    have x1':w7.cell? ⟨w4.heap.size,1,none⟩=some (.int .i64 x.a):=by rw[(bcell hb67).1 _ _ hz6];exact x1
    have hgl7:=hops7.row.lt;have hxl7:w4.heap.size<w7.heap.size:=by omega
    have hcm:=hK.cm;have hcp:=hK.cp;have HK:=Lib.hid hK;have Hops7:=Lib.hid hops7;have Hb47:=Lib.hid hb47;clear hw7 hb67 hb47 hops7 hK x0 x1 Hb46 Hops4;go_wp2_with (refine wpList_atStore 140 (.tmp 11) (.tmp 37) rfl ?_;refine wp_stop ?_)
    refine ⟨?_⟩;refine wpList_storeB rfl 140 (.tmp 11) (.tmp 37) rfl [.func (.func mf) #[] mc,.func (.func pf) #[] #[],.func (.func tf) #[] #[]] rfl rfl (Blk.new w7 140 #[.nilFunc,.nilFunc,.nilFunc]) size_operand rfl (by intro v hv;simp only[List.mem_cons,List.not_mem_nil,or_false] at hv;rcases hv with rfl|rfl|rfl<;>rfl) ?_
    intro w8 hP8 hO8 hz8;have hb78:Below w7.heap.size w7 w8:=((Below.refl _ _).alloc (Nat.le_refl _) _).trans ((hO8.below (B:=w7.heap.size) (by simp) fun q hq e=>by omega))
    have z0:w8.cell? ⟨w7.heap.size,0,none⟩=some (.func (.func mf) #[] mc):=hP8.cell 0;have z1:w8.cell? ⟨w7.heap.size,1,none⟩=some (.func (.func pf) #[] #[]):=hP8.cell 1;have x0:w8.cell? ⟨w4.heap.size,0,none⟩=some (.int .i64 x.op):=by rw[(bcell hb78).1 _ _ hxl7];exact x0'
    have x1:w8.cell? ⟨w4.heap.size,1,none⟩=some (.int .i64 x.a):=by rw[(bcell hb78).1 _ _ hxl7];exact x1'
    have hzl8:=hP8.lt;have hxl8:w4.heap.size<w8.heap.size:=by omega
    have hops8:OpsAt w8 go p:=⟨Hops7.out.row.below hb78 hgl7,fun k h1 h2=>(Hops7.out.box k h1 h2).below hb78 (by have:=hpl k h1 h2;omega)⟩
    have hmay:=HK.out.may x.a w8 go hops8;have Hmay:=Lib.hid hmay;have Hb48:=Lib.hid (Hb47.out.trans (hb78.mono (by omega)))
    clear hP8 hO8 hz8 hb78 hops8 hmay x0' x1' y0 y1 y2 Hops7 Hb47;go_wp2_with fail
    refine Hmay.out.mono ?_;rintro e w8 ⟨rfl,rfl⟩;clear Hmay;cases hmb:mayB kd x.a with
    |false=>
     have hRx:R=([],112):=by rw[hRk.out];unfold encFrom;rw[if_neg (by rw[hop];decide), ←Hkde.out,if_pos hmb]
     have hB:Below w.heap.size w w8:=HB4.out.trans (Hb48.out.mono (by omega))
     have HF:=Lib.hid (show EncPost w R (.returned (.tuple #[.slice none 0 0,.int .i64 112])) w8 from by rw[hRx];exact ⟨none,0,rfl,Own.nil _ _ _ _,hB⟩)
     clear hRx hB;go_wp2_with fail
     go_ret2
     exact HF.out
    |true=>
     have hb48s:=Hb48.out.size;have hW8:=HW.out.below Hb48.out;have hnum:=num_any w3.heap.size w.heap.size A' c' xs 0 x.op w8 hW8 (by have:=hx.o2;omega) (by omega) (by omega)
     unfold numL at hnum;have hf9:=formL_le9 x.op.toNat;rw[if_neg (by omega),putL_room (by omega)] at hnum
     have Hnum:=Lib.hid hnum;have hgl8:=hW8.blk.lt;clear hnum hW8;go_wp2_with fail
     refine Hnum.out.mono ?_;rintro e w9 ⟨rfl,A9,c9,hW9,hA9,hO9⟩;have hz9:=hO9.size
     have hfar:∀b,w4.heap.size≤b→¬ wrS w.heap.size A' b:=fun b hb h=>by
      rcases h with h|h
      ·omega
      have:=(HW.out.lenA b h).2.1;omega
     have z1':w9.cell? ⟨w7.heap.size,1,none⟩=some (.func (.func pf) #[] #[]):=by rw[(ocell hO9).1 _ _ hzl8 (hfar _ (by omega))];exact z1
     have x1':w9.cell? ⟨w4.heap.size,1,none⟩=some (.int .i64 x.a):=by rw[(ocell hO9).1 _ _ hxl8 (hfar _ (by omega))];exact x1
     have hzl9:w7.heap.size<w9.heap.size:=by omega
     have hxl9:w4.heap.size<w9.heap.size:=by omega
     have hput:=HK.out.put x.a w9 w3.heap.size w.heap.size A9 c9 (xs++formL x.op.toNat) hmb hx.a1 hx.a2 hW9 (by rw[List.length_append];omega) (by omega)
     have Hput:=Lib.hid hput
     have HO9:Hid (Only (fun b=>b=w.heap.size) w3 w9):=Lib.hid (((HO.out.trans (Only.of_fresh Hb48.out)).more hO9 fun b hb h=>by
      rcases h with h|h
      ·exact h
      have:=(HW.out.lenA b h).1;omega))
     have HA9:=Lib.hid (fun b (h:A9.map (·.block)=some b)=>(hW9.lenA b h).1);have hgl9:=hW9.blk.lt;clear hput hW9 hA9 hO9 z1 x1 Hnum hfar;go_wp2_with fail
     refine Hput.out.mono ?_;rintro e w10 ⟨rfl,A10,c10,hW10,hA10,hO10⟩
     have HO10:Hid (Only (fun b=>b=w.heap.size) w3 w10):=Lib.hid (HO9.out.more hO10 fun b hb h=>by
      rcases h with h|h
      ·exact h
      have:=HA9.out b h;omega)
     have HW10:=Lib.hid hW10
     have hRn:Hid (R=encFrom (xs++insL x) (l.drop (k+1))):=Lib.hid (by
      rw[hRk.out];conv=>lhs;unfold encFrom
      rw[if_neg (by rw[hop];decide), ←Hkde.out,if_neg (by rw[hmb];decide)])
     have hxs:xs++formL x.op.toNat++argL kd x.a=xs++insL x:=by unfold insL;rw[←Hkde.out,List.append_assoc]
     have hal:(argL kd x.a).length≤9:=by
      unfold argL;split
      ·simp
      split
      ·exact formL_le9 _
      exact formL_le9 _
     have hil:(insL x).length≤18:=by unfold insL;rw[←Hkde.out,List.length_append];omega
     have Hxs:=Lib.hid hxs;clear hW10 hA10 hO10 Hput HO9 hxs;go_wp2_with fail
     exact ⟨⟨k+1,A10,c10,xs++insL x,by omega,by go_num,by rw[←Hxs.out];exact HW10.out,by rw[List.length_append];omega,hRn,HO10.out⟩,by simp[intOf];omega⟩
  obtain rfl:k=l.length:=by omega
  have hd:=done_any w3.heap.size w.heap.size A' c' xs 0 w4 HW.out (by omega)
  have Hd:=Lib.hid hd;clear hd;go_wp2_with fail
  refine Hd.out.mono ?_;rintro e w5 ⟨A5,c5,rfl,hown5,hb5⟩;have e0:doneL xs 0=xs:=by unfold doneL;rw[if_pos rfl]
  rw[e0] at hown5 ⊢;have hRx:R=(xs,0):=by rw[hRk.out,List.drop_length];rfl
  have hB:Below w.heap.size w w5:=(Hb3.out.trans (HO.out.below (by omega) fun b hb e=>by omega)).trans (hb5.mono (by omega))
  have HF:=Lib.hid (show EncPost w R (.returned (.tuple #[.slice A5 xs.length c5,.int .i64 0])) w5 from by rw[hRx];exact ⟨A5,c5,rfl,hown5.mono (by omega),hB⟩)
  clear hown5 hb5 hB e0 hRx Hd;go_wp2_with fail
  go_ret2
  exact HF.out
end
end Go.Proofs.Ytcmpmhlcfalbhaa
