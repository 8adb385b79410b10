import Derived.Test.YtcmpmhlcfalbhaaV03
import Derived.Test.YtcmpmhlcfalbhaaV04
import Derived.Test.YtcmpmhlcfalbhaaV01
import Derived.Laws.Bits64b
import Derived.Defers
import Derived.Recover
import Derived.Lib.Builder
import Derived.Test.YtcmpmhlcfalbhaaV05
namespace Go.Proofs.Ytcmpmhlcfalbhaa
section
open Go.RowKit
structure Rd (w:World) (g:Nat) (A:Option Addr) (c:Nat) (bs:List UInt8) (at_:Nat) (over:Bool) (f:Int):Prop where
 blk:Blk w g 157 #[.slice A bs.length c,.int .i64 (at_:Int),.bool over,.int .i64 f]
 rv:RV w A (bs.map bv)
 ne:∀b o,A=some ⟨b,o,none⟩→b≠g
 cap:bs.length≤c∧c≤maxLen∧(A=none→bs.length=0∧c=0)
 le:at_≤bs.length
def endedE (g:Nat):PanicEntry:={v:=.iface 163 (.agg #[.pointer (some ⟨g,0,none⟩)]),recovered:=false}
theorem Rd.c0 {w:World} {g c at_:Nat} {A:Option Addr} {bs:List UInt8} {o:Bool} {f:Int} (h:Rd w g A c bs at_ o f):w.cell? ⟨g,0,none⟩=some (.slice A bs.length c):=by rw[h.blk.cell];rfl
theorem Rd.c1 {w:World} {g c at_:Nat} {A:Option Addr} {bs:List UInt8} {o:Bool} {f:Int} (h:Rd w g A c bs at_ o f):w.cell? ⟨g,1,none⟩=some (.int .i64 (at_:Int)):=by rw[h.blk.cell];rfl
theorem Rd.c2 {w:World} {g c at_:Nat} {A:Option Addr} {bs:List UInt8} {o:Bool} {f:Int} (h:Rd w g A c bs at_ o f):w.cell? ⟨g,2,none⟩=some (.bool o):=by rw[h.blk.cell];rfl
theorem Rd.c3 {w:World} {g c at_:Nat} {A:Option Addr} {bs:List UInt8} {o:Bool} {f:Int} (h:Rd w g A c bs at_ o f):w.cell? ⟨g,3,none⟩=some (.int .i64 f):=by rw[h.blk.cell];rfl
theorem Rd.below {w w':World} {g c at_:Nat} {A:Option Addr} {bs:List UInt8} {o:Bool} {f:Int} (h:Rd w g A c bs at_ o f) (hb:Below w.heap.size w w'):Rd w' g A c bs at_ o f:=
 ⟨h.blk.below hb h.blk.lt,h.rv.below hb,h.ne,h.cap,h.le⟩
theorem Rd.drewN {w:World} {g c at_:Nat} {A:Option Addr} {bs:List UInt8} {o:Bool} {f:Int} (h:Rd w g A c bs at_ o f) (n:Nat):Rd (w.drewN n) g A c bs at_ o f:=h.below (below_drewN (Below.refl _ _) n)
theorem Rd.only {S:Nat→Prop} {w w':World} {g c at_:Nat} {A:Option Addr} {bs:List UInt8} {o:Bool} {f:Int} (h:Rd w g A c bs at_ o f) (ho:Only S w w') (hg: ¬ S g) (hA:∀b o,A=some ⟨b,o,none⟩→¬ S b):Rd w' g A c bs at_ o f:=
 ⟨h.blk.only ho hg,h.rv.only ho fun _ b o e=>hA b o e,h.ne,h.cap,h.le⟩
theorem Only.drewN {S:Nat→Prop} {a b:World} (h:Only S a b) (n:Nat):Only S a (b.drewN n):=⟨h.os,h.tape,h.output,h.size,h.block⟩
theorem Rd.setAt {w:World} {g c at_:Nat} {A:Option Addr} {bs:List UInt8} {o:Bool} {f:Int} (h:Rd w g A c bs at_ o f) (k:Nat) (hk:k≤bs.length):Rd (w.setCell ⟨g,1,none⟩ (.int .i64 (k:Int))) g A c bs k o f:=
 ⟨Blk.setL (cs:=[.slice A bs.length c,.int .i64 (at_:Int),.bool o,.int .i64 f]) h.blk 1 _,h.rv.only ((Only.refl (fun b=>b=g) w).setCell (p:=⟨g,1,none⟩) (.inl rfl) _) fun _ b o e=>h.ne b o e,h.ne,h.cap,hk⟩
theorem Rd.setF {w:World} {g c at_:Nat} {A:Option Addr} {bs:List UInt8} {o:Bool} {f:Int} (h:Rd w g A c bs at_ o f) (k:Int):Rd (w.setCell ⟨g,3,none⟩ (.int .i64 k)) g A c bs at_ o k:=
 ⟨Blk.setL (cs:=[.slice A bs.length c,.int .i64 (at_:Int),.bool o,.int .i64 f]) h.blk 3 _,h.rv.only ((Only.refl (fun b=>b=g) w).setCell (p:=⟨g,3,none⟩) (.inl rfl) _) fun _ b o e=>h.ne b o e,h.ne,h.cap,h.le⟩
theorem Rd.setO {w:World} {g c at_:Nat} {A:Option Addr} {bs:List UInt8} {o:Bool} {f:Int} (h:Rd w g A c bs at_ o f) (k:Bool):Rd (w.setCell ⟨g,2,none⟩ (.bool k)) g A c bs at_ k f:=
 ⟨Blk.setL (cs:=[.slice A bs.length c,.int .i64 (at_:Int),.bool o,.int .i64 f]) h.blk 2 _,h.rv.only ((Only.refl (fun b=>b=g) w).setCell (p:=⟨g,2,none⟩) (.inl rfl) _) fun _ b o e=>h.ne b o e,h.ne,h.cap,h.le⟩
def Fell (w:World) (g:Nat) (A:Option Addr) (c:Nat) (bs:List UInt8) (f:Int) (e:Ending) (w':World):Prop:=
 e= .panicked [endedE g]∧(∃at_,Rd w' g A c bs at_ true f)∧Only (fun b=>b=g) w w'
theorem fail_any (g c at_:Nat) (A:Option Addr) (bs:List UInt8) (f:Int) (hf:f≠0) (w:World) (h:Rd w g A c bs at_ false 0):
  Calls Try.prog 103 #[.pointer (some ⟨g,0,none⟩),.int .i64 f] w (Fell w g A c bs f):=by
 have h2:=h.c2
 have h3:=h.c3
 have f2:=h.blk.frozen 2
 have f3:=h.blk.frozen 3
 have hgl:=h.blk.lt
 have hfb:(f != 0)=true:=by rw[bne_iff_ne];exact hf
 have H:=Lib.hid h
 clear h hf
 have hpan:∀(v:Value) (w:World),(Instr.panic (.iface 163 v)).run Try.prog w= .halt (.panic (.iface 163 v)) w:=fun _ _=>rfl
 go_enter Try.func103,Try.ntmps103
 go_wp2_with fail
 exact ⟨rfl,rfl,⟨at_,(H.out.setO true).setF f⟩,((Only.refl (fun b=>b=g) w).setCell (p:=⟨g,2,none⟩) (.inl rfl) _).setCell (p:=⟨g,3,none⟩) (.inl rfl) _⟩
theorem sliceB:Try.prog.underlying 23=some (.slice (Try.prog.elem 23)):=by kernel_rfl
theorem sizeB (w:World):(sizeOf (Try.prog.elem 23)).run Try.prog w= .ok 1 w:=by kernel_rfl
def Took (w:World) (g:Nat) (A:Option Addr) (c:Nat) (bs:List UInt8) (at_ n:Nat) (e:Ending) (w':World):Prop:=
 ∃A2,e= .returned (.slice A2 n (c-at_))∧Moved A c at_ A2∧Rd w' g A c bs (at_+n) false 0∧Only (fun b=>b=g) w w'
theorem take_ok (g c at_ n:Nat) (A:Option Addr) (bs:List UInt8) (w:World) (h:Rd w g A c bs at_ false 0) (hl:bs.length≤140737488351232) (hfit:at_+n≤bs.length):
  Calls Try.prog 102 #[.pointer (some ⟨g,0,none⟩),.int .i64 (n:Int)] w (Took w g A c bs at_ n):=by
 have h0:=h.c0
 have h1:=h.c1
 have f1:=h.blk.frozen 1
 have hgl:=h.blk.lt
 have hle:=h.le
 obtain ⟨hc1,hc2,-⟩:=h.cap
 have H:=Lib.hid h
 clear h
 obtain ⟨A2,hsl0,hmv⟩:=run_to sliceB sizeB A bs.length c at_ (at_+n) (by omega) (by omega)
 rw[Nat.add_sub_cancel_left] at hsl0
 have hsl:∀w',(Instr.slice 23 (.slice A bs.length c) (some (.int .i64 (at_:Int))) (some (.int .i64 ((at_:Int)+(n:Int)))) none).run Try.prog w'= .ok (.slice A2 n (c-at_)) w':=fun w'=>by
  rw[←Int.natCast_add];exact hsl0 w'
 have g1: ¬ ((bs.length:Int)-(at_:Int)<(n:Int)):=by omega
 have Hmv:=Lib.hid hmv
 have Hfit:=Lib.hid hfit
 have hsm:(at_:Int)+(n:Int)≤140737488351232:=by omega
 clear hsl0 hmv hc2 hfit
 go_enter Try.func102,Try.ntmps102
 go_wp2_with fail
 go_quiet (fail)
 go_wp2_with fail
 go_quiet (fail)
 go_wp2_with fail
 go_ret
 exact ⟨A2,rfl,Hmv.out,(H.out.drewN _).setAt (at_+n) Hfit.out,((Only.refl (fun b=>b=g) w).drewN _).setCell (p:=⟨g,1,none⟩) (.inl rfl) _⟩
theorem take_cut (g c at_:Nat) (n:Int) (A:Option Addr) (bs:List UInt8) (w:World) (h:Rd w g A c bs at_ false 0) (hl:bs.length≤140737488351232) (hcut:(bs.length:Int)<at_+n):
  Calls Try.prog 102 #[.pointer (some ⟨g,0,none⟩),.int .i64 n] w (Fell w g A c bs 11):=by
 have h0:=h.c0
 have h1:=h.c1
 have f1:=h.blk.frozen 1
 have hgl:=h.blk.lt
 have hle:=h.le
 have H:=Lib.hid h
 have g1:(bs.length:Int)-(at_:Int)<n:=by omega
 clear h hcut
 go_enter Try.func102,Try.ntmps102
 go_wp2_with fail
 go_quiet (fail)
 go_wp2_with fail
 refine (fail_any g c at_ A bs 11 (by decide) _ (H.out.drewN _)).mono ?_
 rintro e w' ⟨rfl,hrd,ho⟩
 exact ⟨rfl,rfl,hrd,⟨ho.os,ho.tape,ho.output,ho.size,ho.block⟩⟩
def beNat (l:List UInt8):Nat:=l.foldl (fun u c=>u*256+c.toNat) 0
theorem beNat_snoc (l:List UInt8) (x:UInt8):beNat (l++[x])=beNat l*256+x.toNat:=by
 unfold beNat;rw[List.foldl_append];rfl
theorem beNat_ltA (l:List UInt8):∀u,l.foldl (fun u (c:UInt8)=>u*256+c.toNat) u<(u+1)*256 ^ l.length:=by
 induction l with
 |nil=>intro u;simp
 |cons x l ih=>
  intro u;rw[List.foldl_cons,List.length_cons,Nat.pow_succ];refine Nat.lt_of_lt_of_le (ih _) ?_;have hx:=x.toNat_lt
  calc (u*256+x.toNat+1)*256 ^ l.length≤((u+1)*256)*256 ^ l.length:=Nat.mul_le_mul_right _ (by omega)
   _=(u+1)*(256 ^ l.length*256):=by rw[Nat.mul_assoc,Nat.mul_comm 256]
theorem beNat_lt (l:List UInt8):beNat l<256 ^ l.length:=by
 have:=beNat_ltA l 0;rwa [Nat.zero_add,Nat.one_mul] at this
def numberL (bs:List UInt8) (at_:Nat):Except Int (Nat×Nat):=
 if bs.length<at_+1 then .error 11
 else if (bs.getD at_ 0).toNat<248 then .ok ((bs.getD at_ 0).toNat,1)
 else if bs.length<at_+1+((bs.getD at_ 0).toNat-247) then .error 11
 else if (bs.getD (at_+1) 0).toNat=0∨beNat ((bs.drop (at_+1)).take ((bs.getD at_ 0).toNat-247))<248 then .error 12
 else .ok (beNat ((bs.drop (at_+1)).take ((bs.getD at_ 0).toNat-247)),1+((bs.getD at_ 0).toNat-247))
theorem or_byte64 (u:Nat) (c:UInt8) (h:u<72057594037927936):bits .or .u64 ((u:Int)*256) (c.toNat:Int)=((u*256+c.toNat:Nat):Int):=by
 have hc:=c.toNat_lt;have h1:bits .or .u64 ((u:Int)*256) (c.toNat:Int)=IntKind.u64.wrap (((BitVec.ofInt 64 ((u:Int)*256))|||(BitVec.ofInt 64 (c.toNat:Int))).toNat:Int):=rfl;rw[h1,show (u:Int)*256=((u*256:Nat):Int) from by omega,BitVec.ofInt_natCast,BitVec.ofInt_natCast,BitVec.toNat_or,BitVec.toNat_ofNat,BitVec.toNat_ofNat,Nat.mod_eq_of_lt (by omega),Nat.mod_eq_of_lt (by omega)]
 have h2:u*256|||c.toNat=u*256+c.toNat:=by
  rw[Nat.mul_comm,show (256:Nat)=2 ^ 8 from rfl, ←Nat.two_pow_add_eq_or_of_lt (by omega)]
 rw[h2,IntKind.wrap_u64];omega
theorem beNat_take (l:List UInt8) (j:Nat) (h:j<l.length):beNat (l.take (j+1))=beNat (l.take j)*256+(l[j]).toNat:=by
 rw[List.take_succ_eq_append_getElem h,beNat_snoc]
theorem RV.byteAt {w:World} {A A2:Option Addr} {bs:List UInt8} {c at_ n:Nat} (hr:RV w A (bs.map bv)) (hm:Moved A c at_ A2) (hc:bs.length≤c) (hfit:at_+n≤bs.length) (hn:0<n):
  ∃b off,A2=some ⟨b,off,none⟩∧b<w.heap.size∧∀j,j<n→w.cell? ⟨b,off+j,none⟩=some (.int .u8 ((bs.getD (at_+j) 0).toNat:Int)):=by
 have h1:=hr.moved hm (by rw[List.length_map];exact hc)
 obtain ⟨b,off,hA,hb,hcl⟩:=h1.at_ (by rw[List.length_drop,List.length_map];omega)
 refine ⟨b,off,hA,hb,fun j hj=>hcl j _ ?_⟩
 rw[List.getElem?_drop,List.getElem?_map,List.getElem?_eq_getElem (by omega),List.getD_eq_getElem?_getD,List.getElem?_eq_getElem (by omega)]
 rfl
def Numbered (w:World) (g:Nat) (A:Option Addr) (c:Nat) (bs:List UInt8) (at_ u k:Nat) (e:Ending) (w':World):Prop:=
 e= .returned (.int .u64 (u:Int))∧Rd w' g A c bs (at_+k) false 0∧Only (fun b=>b=g) w w'
set_option maxRecDepth 100000 in
set_option maxHeartbeats 1000000 in
theorem number_any (g c at_:Nat) (A:Option Addr) (bs:List UInt8) (w:World) (h:Rd w g A c bs at_ false 0) (hl:bs.length≤140737488351232):
  Calls Try.prog 99 #[.pointer (some ⟨g,0,none⟩)] w fun e w'=>match numberL bs at_ with| .ok (u,k)=>Numbered w g A c bs at_ u k e w'| .error f=>Fell w g A c bs f e w':=by
 have H:=Lib.hid h
 have hle:=h.le
 have hcap:=h.cap
 by_cases h1:bs.length<at_+1
 ·have e:numberL bs at_= .error 11:=by unfold numberL;rw[if_pos h1]
  rw[e];clear h;go_enter Try.func99,Try.ntmps99
  go_wp2_with fail
  refine (take_cut g c at_ 1 A bs w H.out hl (by omega)).mono ?_
  rintro e w' ⟨rfl,hrd,ho⟩;exact ⟨rfl,rfl,hrd,ho⟩
 obtain ⟨x,hx⟩:∃x,x=(bs.getD at_ 0).toNat:=⟨_,rfl⟩
 have hx8:x<256:=by rw[hx];exact UInt8.toNat_lt _
 have htake:=take_ok g c at_ 1 A bs w H.out hl (by omega)
 by_cases h2:x<248
 ·have e:numberL bs at_= .ok (x,1):=by unfold numberL;rw[if_neg h1, ←hx,if_pos h2]
  rw[e];clear h hle;go_enter Try.func99,Try.ntmps99
  go_wp2_with fail
  refine htake.mono ?_;rintro e w1 ⟨A2,rfl,hm,hrd,ho⟩;obtain ⟨b,off,rfl,hb,hc0⟩:=RV.byteAt hrd.rv hm hcap.1 (n:=1) (by omega) (by omega)
  have c0:=hc0 0 (by omega)
  rw[Nat.add_zero,Nat.add_zero, ←hx] at c0;have g1:(x:Int)<248:=by omega
  have Hrd:=Lib.hid hrd;have Ho:=Lib.hid ho;clear hc0 hm hrd ho htake hx;go_wp2_with fail
  go_ret
  exact ⟨rfl,Hrd.out,Ho.out⟩
 obtain ⟨k,hk⟩:∃k,k=x-247:=⟨_,rfl⟩
 have hsub:(x:Int)-247=(k:Int):=by omega
 have hk8:1≤k∧k≤8:=by omega
 have g0: ¬ (x:Int)<248:=by omega
 by_cases h3:bs.length<at_+1+k
 ·have e:numberL bs at_= .error 11:=by unfold numberL;rw[if_neg h1, ←hx,if_neg h2, ←hk,if_pos h3]
  rw[e];clear h hle;go_enter Try.func99,Try.ntmps99
  go_wp2_with fail
  refine htake.mono ?_;rintro e w1 ⟨A2,rfl,hm,hrd,ho⟩;obtain ⟨b,off,rfl,hb,hc0⟩:=RV.byteAt hrd.rv hm hcap.1 (n:=1) (by omega) (by omega)
  have c0:=hc0 0 (by omega)
  rw[Nat.add_zero,Nat.add_zero, ←hx] at c0;have Hrd:=Lib.hid hrd;have Ho:=Lib.hid ho;clear hc0 hm hrd ho htake hx hk;go_wp2_with fail
  refine (take_cut g c (at_+1) (k:Int) A bs w1 Hrd.out hl (by omega)).mono ?_
  rintro e w2 ⟨rfl,hrd2,ho2⟩;exact ⟨rfl,rfl,hrd2,Ho.out.trans ho2⟩
 obtain ⟨y,hy⟩:∃y,y=(bs.getD (at_+1) 0).toNat:=⟨_,rfl⟩
 have hy8:y<256:=by rw[hy];exact UInt8.toNat_lt _
 obtain ⟨l,hl0⟩:∃l,l=(bs.drop (at_+1)).take k:=⟨_,rfl⟩
 have hll:l.length=k:=by rw[hl0,List.length_take,List.length_drop];omega
 obtain ⟨u,hu⟩:∃u,u=beNat l:=⟨_,rfl⟩
 have hu64:u<18446744073709551616:=by
  rw[hu];have h1:=beNat_lt l;have h2:256 ^ l.length≤256 ^ 8:=Nat.pow_le_pow_right (by omega) (by omega)
  have h3:(256:Nat) ^ 8=18446744073709551616:=by decide
  omega
 have hres:numberL bs at_=if y=0∨u<248 then .error 12 else .ok (u,1+k):=by
  unfold numberL;rw[if_neg h1, ←hx,if_neg h2, ←hk,if_neg h3, ←hy, ←hl0, ←hu]
 obtain ⟨R,hR⟩:∃R,R=numberL bs at_:=⟨_,rfl⟩
 rw[←hR]
 rw[hres] at hR
 have HR:=Lib.hid hR
 have Hu:=Lib.hid hu
 have Hl0:=Lib.hid hl0
 clear h hle hres hu hl0 hR
 go_enter Try.func99,Try.ntmps99
 go_wp2_with fail
 refine htake.mono ?_
 rintro e w1 ⟨A2,rfl,hm,hrd,ho⟩
 obtain ⟨b,off,rfl,hb,hc0⟩:=RV.byteAt hrd.rv hm hcap.1 (n:=1) (by omega) (by omega)
 have c0:=hc0 0 (by omega)
 rw[Nat.add_zero,Nat.add_zero, ←hx] at c0
 have Hrd:=Lib.hid hrd
 have Ho:=Lib.hid ho
 clear hc0 hm hrd ho htake hx hk
 go_wp2_with fail
 refine (take_ok g c (at_+1) k A bs w1 Hrd.out hl (by omega)).mono ?_
 rintro e w2 ⟨A3,rfl,hm3,hrd3,ho3⟩
 obtain ⟨b3,off3,rfl,hb3,hc3⟩:=RV.byteAt hrd3.rv hm3 hcap.1 (n:=k) (by omega) (by omega)
 have c3:=hc3 0 (by omega)
 rw[Nat.add_zero,Nat.add_zero, ←hy] at c3
 have Hc3:=Lib.hid hc3
 have Hrd3:=Lib.hid hrd3
 have Ho3:=Lib.hid (Ho.out.trans ho3)
 have Hy:=Lib.hid hy
 clear hc3 hm3 hrd3 ho3 c0 hb hy Hrd
 go_wp2_with fail
 go_loop [5,7,27] (fun v _ i=>∃j:Nat,j≤k∧i= .int .i64 j∧v= .int .u64 ((beNat (l.take j):Nat):Int)) (fun _ _ i=>k-(intOf i).toNat)
 case atStart=>exact ⟨0,Nat.zero_le _,rfl,rfl⟩
 case round=>
  obtain ⟨j,hj,rfl,rfl⟩:=hrel;by_cases hlt:j<k
  ·have g1:(j:Int)<(k:Int):=by omega
   have cj:=Hc3.out j hlt
   have hlj:l[j]'(by omega)=bs.getD (at_+1+j) 0:=by
    have:l[j]?=some (bs.getD (at_+1+j) 0):=by
     rw[Hl0.out,List.getElem?_take,if_pos hlt,List.getElem?_drop,List.getD_eq_getElem?_getD,List.getElem?_eq_getElem (by omega)]
     rfl
    rw[List.getElem?_eq_getElem (by omega)] at this
    injection this
   have hstep:=beNat_take l j (by omega)
   rw[hlj] at hstep
   have hub:beNat (l.take j)<72057594037927936:=by
    have h1:=beNat_lt (l.take j);have h2:256 ^ (l.take j).length≤256 ^ 7:=Nat.pow_le_pow_right (by omega) (by rw[List.length_take];omega)
    have h3:(256:Nat) ^ 7=72057594037927936:=by decide
    omega
   have hor:=or_byte64 (beNat (l.take j)) (bs.getD (at_+1+j) 0) hub;have hc8:=(bs.getD (at_+1+j) 0).toNat_lt;have Hstep:=Lib.hid hstep;generalize (bs.getD (at_+1+j) 0).toNat=z at*
   generalize beNat (l.take j)=v at*
   clear hstep hlj;go_wp2_with fail
   exact ⟨⟨j+1,by omega,by go_num,by rw[Hstep.out];go_num⟩,by simp[intOf];omega⟩
  obtain rfl:j=k:=by omega
  rw[List.take_of_length_le (by omega), ←Hu.out]
  have hw2:Rd w2 g A c bs (at_+(1+j)) false 0:=by rw[←Nat.add_assoc];exact Hrd3.out
  have Hw2:=Lib.hid hw2;clear hw2 hlt hj;by_cases hy0:y=0
  ·subst hy0;have hR:=HR.out;rw[if_pos (.inl rfl)] at hR;subst hR;go_wp2_with fail
   refine (fail_any g c _ A bs 12 (by decide) w2 Hw2.out).mono ?_
   rintro e w4 ⟨rfl,hrd4,ho4⟩;exact ⟨rfl,rfl,hrd4,Ho3.out.trans ho4⟩
  have hyb:((y:Int)==0)=false:=by rw[beq_eq_false_iff_ne];omega
  by_cases hu:u<248
  ·have hR:=HR.out;rw[if_pos (.inr hu)] at hR;subst hR;have g2:(u:Int)<248:=by omega
   clear hy0;go_wp2_with fail
   refine (fail_any g c _ A bs 12 (by decide) w2 Hw2.out).mono ?_
   rintro e w4 ⟨rfl,hrd4,ho4⟩;exact ⟨rfl,rfl,hrd4,Ho3.out.trans ho4⟩
  have hR:=HR.out;rw[if_neg (by omega)] at hR
  subst hR;have g2: ¬ (u:Int)<248:=by omega
  clear hy0;go_wp2_with fail
  go_ret
  exact ⟨rfl,Hw2.out,Ho3.out⟩
end
section
open Go.RowKit
def rNumL (bs:List UInt8) (at_:Nat):Except Int (Nat×Nat):=
 match numberL bs at_ with
 | .error f=> .error f
 | .ok (u,k)=>if 9223372036854775808≤u then .error 12 else .ok (u,k)
theorem number_lt {bs:List UInt8} {at_ u k:Nat} (h:numberL bs at_= .ok (u,k)):u<18446744073709551616∧1≤k∧at_+k≤bs.length:=by
 unfold numberL at h;split at h
 ·cases h
 split at h
 ·injection h with h
  injection h with h1 h2
  have:=(bs.getD at_ 0).toNat_lt;omega
 split at h
 ·cases h
 split at h
 ·cases h
 rename_i h1 h2 h3 h4
 injection h with h
 injection h with h5 h6
 have hx:=(bs.getD at_ 0).toNat_lt;refine ⟨?_,by omega,by omega⟩
 rw[←h5];have h7:=beNat_lt ((bs.drop (at_+1)).take ((bs.getD at_ 0).toNat-247));have h8:256 ^ ((bs.drop (at_+1)).take ((bs.getD at_ 0).toNat-247)).length≤256 ^ 8:=Nat.pow_le_pow_right (by omega) (by rw[List.length_take];omega)
 have h9:(256:Nat) ^ 8=18446744073709551616:=by decide
 omega
set_option maxRecDepth 100000 in
theorem rNum_any (g c at_:Nat) (A:Option Addr) (bs:List UInt8) (w:World) (h:Rd w g A c bs at_ false 0) (hl:bs.length≤140737488351232):
  Calls Try.prog 101 #[.pointer (some ⟨g,0,none⟩)] w fun e w'=>match rNumL bs at_ with
   | .ok (u,k)=>e= .returned (.int .i64 (u:Int))∧Rd w' g A c bs (at_+k) false 0∧Only (fun b=>b=g) w w'
   | .error f=>Fell w g A c bs f e w':=by
 have h2:=h.c2
 have hgl:=h.blk.lt
 have hc:=number_any g c at_ A bs w h hl
 cases hn:numberL bs at_ with
 |error f=>
  rw[hn] at hc;have e:rNumL bs at_= .error f:=by unfold rNumL;rw[hn]
  rw[e];clear h;go_enter Try.func101,Try.ntmps101
  go_wp2_with fail
  refine hc.mono ?_;rintro e w' ⟨rfl,hrd,ho⟩;exact ⟨rfl,rfl,hrd,ho⟩
 |ok uk=>
  obtain ⟨u,k⟩:=uk;rw[hn] at hc;obtain ⟨hu,hk⟩:=number_lt hn;by_cases hbig:9223372036854775808≤u
  ·have e:rNumL bs at_= .error 12:=by unfold rNumL;rw[hn];exact if_pos hbig
   rw[e];have g1:((u:Int) / 9223372036854775808 != 0)=true:=by rw[bne_iff_ne];omega
   clear h hbig;go_enter Try.func101,Try.ntmps101
   go_wp2_with fail
   refine hc.mono ?_;rintro e w' ⟨rfl,hrd,ho⟩;have Hrd:=Lib.hid hrd;have Ho:=Lib.hid ho;clear hc hrd ho;go_wp2_with fail
   refine (fail_any g c _ A bs 12 (by decide) w' Hrd.out).mono ?_
   rintro e w4 ⟨rfl,hrd4,ho4⟩;exact ⟨rfl,rfl,hrd4,Ho.out.trans ho4⟩
  have e:rNumL bs at_= .ok (u,k):=by unfold rNumL;rw[hn];exact if_neg hbig
  rw[e];have g1:((u:Int) / 9223372036854775808 != 0)=false:=by rw[bne_eq_false_iff_eq];omega
  have g2:(u:Int)<9223372036854775808:=by omega
  clear h hbig;go_enter Try.func101,Try.ntmps101
  go_wp2_with fail
  refine hc.mono ?_;rintro e w' ⟨rfl,hrd,ho⟩;have Hrd:=Lib.hid hrd;have Ho:=Lib.hid ho;clear hc hrd ho;go_wp2_with fail
  go_ret
  exact ⟨rfl,Hrd.out,Ho.out⟩
def unfoldN (u:Nat):Int:=if u % 2=0 then ((u / 2:Nat):Int) else -((u / 2:Nat):Int)-1
theorem unfold_bits (u:Nat) (hu:u<18446744073709551616):bits .xor .i64 ((u:Int) / 2) (wrap64 (-wrap64 (bits .and .u64 (u:Int) 1)))=unfoldN u:=by
 have h1:bits .and .u64 (u:Int) 1=((u % 2:Nat):Int):=by
  have h:=bits_and_u64_nat u 1 hu (by decide)
  rw[Nat.and_one_is_mod] at h;exact h
 have h2:∀b:Int,bits .xor .i64 ((u:Int) / 2) b=IntKind.i64.wrap (((BitVec.ofInt 64 ((u:Int) / 2)) ^^^ (BitVec.ofInt 64 b)).toNat:Int):=fun _=>rfl;have h3:(u:Int) / 2=((u / 2:Nat):Int):=by omega
 rw[h1];unfold unfoldN;by_cases h:u % 2=0
 ·rw[if_pos h,h,h2,h3];rw[show wrap64 (-wrap64 ((0:Nat):Int))=0 from by unfold wrap64;omega,BitVec.ofInt_natCast,show BitVec.ofInt 64 0=0#64 from rfl,BitVec.xor_zero,BitVec.toNat_ofNat,Nat.mod_eq_of_lt (by omega)]
  simp only[IntKind.wrap_i64];omega
 rw[if_neg h,show u % 2=1 from by omega,h2,h3]
 rw[show wrap64 (-wrap64 ((1:Nat):Int))= -1 from by unfold wrap64;omega,BitVec.ofInt_natCast,show BitVec.ofInt 64 (-1)=BitVec.allOnes 64 from rfl,BitVec.xor_allOnes,BitVec.toNat_not,BitVec.toNat_ofNat,Nat.mod_eq_of_lt (by omega)]
 simp only[IntKind.wrap_i64];omega
set_option maxRecDepth 100000 in
theorem rInt_any (g c at_:Nat) (A:Option Addr) (bs:List UInt8) (w:World) (h:Rd w g A c bs at_ false 0) (hl:bs.length≤140737488351232):
  Calls Try.prog 94 #[.pointer (some ⟨g,0,none⟩)] w fun e w'=>match numberL bs at_ with
   | .ok (u,k)=>e= .returned (.int .i64 (unfoldN u))∧Rd w' g A c bs (at_+k) false 0∧Only (fun b=>b=g) w w'
   | .error f=>Fell w g A c bs f e w':=by
 have h2:=h.c2
 have hgl:=h.blk.lt
 have hc:=number_any g c at_ A bs w h hl
 cases hn:numberL bs at_ with
 |error f=>
  rw[hn] at hc;clear h;go_enter Try.func94,Try.ntmps94
  go_wp2_with fail
  refine hc.mono ?_;rintro e w' ⟨rfl,hrd,ho⟩;exact ⟨rfl,rfl,hrd,ho⟩
 |ok uk=>
  obtain ⟨u,k⟩:=uk;rw[hn] at hc;obtain ⟨hu,hk⟩:=number_lt hn;clear h;go_enter Try.func94,Try.ntmps94
  go_wp2_with fail
  refine hc.mono ?_;rintro e w' ⟨rfl,hrd,ho⟩;have Hrd:=Lib.hid hrd;have Ho:=Lib.hid ho;clear hc hrd ho;go_wp2_with fail
  have hub:=unfold_bits u hu;go_ret
  exact ⟨by rw[←hub];rfl,Hrd.out,Ho.out⟩
end
end Go.Proofs.Ytcmpmhlcfalbhaa
