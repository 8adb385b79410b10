import Derived.Test.YtcmpmhlcfalbhaaV03
import Derived.Test.YtcmpmhlcfalbhaaV01
namespace Go.Proofs.Ytcmpmhlcfalbhaa
section
theorem byteCnt_lt (u k:Nat) (h:u<2 ^ (8*k)):u<2 ^ (8*byteCnt u k):=by
 induction k with
 |zero=>exact h
 |succ k ih=>
  unfold byteCnt;split
  ·rename_i h0
   refine ih ?_;rcases Nat.div_eq_zero_iff.1 h0 with h1|h1
   ·have:=Nat.two_pow_pos (8*k);omega
   exact h1
  exact h
end
section
def FormR (u j:Nat) (out:List UInt8):Prop:=(out=[]∧byteCnt u 8=byteCnt u j)∨(out≠[]∧out++beBytes u j=beBytes u (byteCnt u 8))
theorem FormR.start (u:Nat):FormR u 8 []:=.inl ⟨rfl,rfl⟩
theorem FormR.len {u j:Nat} {out:List UInt8} (h:FormR u j out) (hj:j≤8):out.length+j≤8:=by
 rcases h with ⟨rfl,_⟩|⟨_,h⟩
 ·simpa using hj
 have e:=congrArg List.length h;rw[List.length_append,length_beBytes,length_beBytes] at e;have:=byteCnt_le u 8;omega
theorem small_of_cnt (u j:Nat) (hu:u<2 ^ 64) (h:byteCnt u 8=byteCnt u (j+1)):u / 2 ^ (8*j)<256:=by
 have h1:=byteCnt_lt u 8 (by exact hu)
 rw[h] at h1;have h2:=byteCnt_le u (j+1);have h3:2 ^ (8*byteCnt u (j+1))≤2 ^ (8*(j+1)):=Nat.pow_le_pow_right (by omega) (by omega)
 rw[Nat.div_lt_iff_lt_mul (Nat.two_pow_pos _)];have e:2 ^ (8*(j+1))=256*2 ^ (8*j):=by rw[Nat.mul_add,Nat.pow_add,Nat.mul_comm]
 omega
theorem FormR.skip {u j:Nat} (hu:u<2 ^ 64) (h:FormR u (j+1) []) (hx:u / 2 ^ (8*j) % 256=0):FormR u j []:=by
 rcases h with ⟨_,h⟩|⟨h,_⟩
 ·refine .inl ⟨rfl,h.trans (byteCnt_step u j ?_)⟩;have:=small_of_cnt u j hu h;generalize u / 2 ^ (8*j)=y at*
  omega
 exact absurd rfl h
theorem FormR.first {u j:Nat} (h:FormR u (j+1) []) (hx: ¬ u / 2 ^ (8*j) % 256=0):FormR u j [UInt8.ofNat (u / 2 ^ (8*j))]:=by
 rcases h with ⟨_,h⟩|⟨h,_⟩
 ·refine .inr ⟨by simp,?_⟩
  rw[h,byteCnt_stop u j (fun e=>hx (by rw[e]))]
  rfl
 ·exact absurd rfl h
theorem FormR.next {u j:Nat} {out:List UInt8} (h:FormR u (j+1) out) (ho:out≠[]):FormR u j (out++[UInt8.ofNat (u / 2 ^ (8*j))]):=by
 rcases h with ⟨h,_⟩|⟨_,h⟩
 ·exact absurd h ho
 refine .inr ⟨by simp,?_⟩
 rw[←h,List.append_assoc];rfl
theorem FormR.fin {u:Nat} {out:List UInt8} (h:FormR u 0 out) (hu:u<2 ^ 64) (h0: ¬ u<248):out=beBytes u (byteCnt u 8):=by
 rcases h with ⟨_,h⟩|⟨_,h⟩
 ·have:=byteCnt_pos u 8 (by omega) (by exact hu)
  rw[h] at this;simp[byteCnt] at this
 simpa [beBytes] using h
end
section
open Go.RowKit
structure Item where
 kind:Int
 n:Int
 p:Part
abbrev Item.val (x:Item):Value:=.agg #[.int .i64 x.kind,.int .i64 x.n,.slice x.p.A x.p.ys.length x.p.c]
structure Item.ok (x:Item):Prop where
 k1: -9223372036854775808≤x.kind
 k2:x.kind≤9223372036854775807
 n1: -9223372036854775808≤x.n
 n2:x.n≤9223372036854775807
 len:x.p.ys.length≤140737488355328
theorem Wr.refl_post {w:World} {base g:Nat} {A:Option Addr} {c:Nat} {xs:List UInt8} {f:Int} (h:Wr w base g A c xs f):WrPost base g A w xs f w:=⟨A,c,h,fun _ hb=> .inl hb,Only.refl _ _⟩
end
section
open Go.RowKit
theorem cast_byte (u i:Nat):(u:Int) / 2 ^ (8*i) % 256=((u / 2 ^ (8*i) % 256:Nat):Int):=by
 rw[Int.natCast_emod,Int.natCast_ediv,Int.natCast_pow];rfl
theorem refForm_small (u:Nat) (w:World) (h:u<248):Calls Try.prog 87 #[.int .u64 u] w (FreshB w (formL u)):=by
 have h1:(u:Int)≤247:=by omega
 have e1:formL u=[UInt8.ofNat u]:=by unfold formL;rw[if_pos h]
 have e2:(Value.int .u8 (u:Int))=bv (UInt8.ofNat u):=by unfold bv;rw[toNat_ofNat8,Nat.mod_eq_of_lt (by omega)]
 rw[e1];have E2:=Lib.hid e2;clear e1 e2 h;go_enter Try.func87,Try.ntmps87
 go_wp2
 go_ret
 refine ⟨_,_,rfl,?_,(Below.refl _ _).alloc (Nat.le_refl _) _⟩;rw[E2.out];exact Own.lit w _ 1 1 #[bv (UInt8.ofNat u)] (Nat.le_refl _) (by decide) rfl
set_option maxHeartbeats 1000000 in
theorem refForm_big (u:Nat) (w:World) (h: ¬ u<248) (hu:u<18446744073709551616):Calls Try.prog 87 #[.int .u64 u] w (FreshB w (formL u)):=by
 have h1: ¬ (u:Int)≤247:=by omega
 have Hu:=Lib.hid (show u<2 ^ 64 from hu)
 have H0:=Lib.hid h;clear hu h;go_enter Try.func87,Try.ntmps87
 go_wp2_with fail
 go_loopw [3,4] (fun v i wr=>∃(j:Nat) (out:List UInt8) (A:Option Addr) (c:Nat),j≤8∧i= .int .i64 ((j:Int)-1)∧v= .slice A out.length c∧OwnB wr w.heap.size A out.length c out∧Below w.heap.size w wr∧FormR u j out) (fun _ i _=>(intOf i+1).toNat)
 case atStart=>exact ⟨8,[],none,0,by omega,rfl,rfl,Own.nil _ _ _ _,Below.refl _ _,FormR.start u⟩
 obtain ⟨j,out,A,c,hj,rfl,rfl,hown,hB,HR⟩:=hrel;have hlen:=HR.len hj;have hbase:=hB.size;by_cases h0:j=0
 ·subst h0
  have hlen2:out.length=byteCnt u 8:=by
   have e:=congrArg List.length (HR.fin Hu.out H0.out);rw[length_beBytes] at e;exact e
  have hform:formL u=[UInt8.ofNat (247+out.length)]++out:=by
   unfold formL;rw[if_neg H0.out,hlen2, ←HR.fin Hu.out H0.out];rfl
  have hx:Value.int .u8 (247+(out.length:Int))=bv (UInt8.ofNat (247+out.length)):=by
   unfold bv;rw[toNat_ofNat8,Nat.mod_eq_of_lt (by omega)];congr 1
  have Hform:=Lib.hid hform;have Hx:=Lib.hid hx;have hown1:∀W:World,OwnB (W.alloc (.cells #[bv (UInt8.ofNat (247+out.length))] 5)) W.heap.size (some ⟨W.heap.size,0,none⟩) 1 1 [UInt8.ofNat (247+out.length)]:=fun W=>Own.lit W _ 1 1 #[bv (UInt8.ofNat (247+out.length))] (Nat.le_refl _) (by decide) rfl
  have Hown1:=Lib.hid hown1;clear hx hform hlen2 hown1;go_wp2_with (at_builtin;refine wpList_app rfl (.tmp 37) (.tmp 38) eByte rfl (base:=w.heap.size) (n:=1) (c:=1) (A:=some ⟨wr.heap.size,0,none⟩) (vs:=[bv (UInt8.ofNat (247+out.length))]) rfl (by rw[Hx.out];exact (Hown1.out wr).mono hbase) (A':=A) (m:=out.length) (c':=c) (us:=out.map bv) rfl ((RV.of_own hown).alloc _) (by simp) (map_bv_one _) (by unfold maxLen;omega) (by omega) (by simp;omega) (Sl.of_own hown).nil ?_;intro A2 c2 w2 hown2 hg2 hat2)
  go_ret
  rw[Hform.out];refine ⟨A2,c2,?_,OwnB.app (xs:=[_]) hown2 rfl rfl,(hB.alloc hbase _).grown hg2 (by simp;omega) fun k hk=>?_⟩
  ·rw[List.length_append];rfl
  simp at hk;omega
 obtain ⟨i,rfl⟩:∃i:Nat,j=i+1:=⟨j-1,by omega⟩
 have e:(((i+1:Nat):Int)-1)=(i:Int):=by omega
 rw[e];clear e h0
 have hx:Value.int .u8 ((u:Int) / 2 ^ (8*i) % 256)=bv (UInt8.ofNat (u / 2 ^ (8*i))):=by
  unfold bv;rw[toNat_ofNat8];congr 1
 have Hx:=Lib.hid hx;clear hx;by_cases ho:out=[]
 ·subst ho;by_cases hz:u / 2 ^ (8*i) % 256=0
  ·have hzb:((u:Int) / 2 ^ (8*i) % 256 != 0)=false:=by
    rw[bne_eq_false_iff_eq,cast_byte,hz];rfl
   have HR2:=HR.skip Hu.out hz;clear hz;go_wp2_with fail
   exact ⟨⟨i,[],A,c,by omega,rfl,rfl,hown,hB,HR2⟩,by simp[intOf]⟩
  have hzb:((u:Int) / 2 ^ (8*i) % 256 != 0)=true:=by
   rw[bne_iff_ne,cast_byte];intro h;exact hz (Int.natCast_inj.1 h)
  have HR2:=HR.first hz
  clear hz;go_wp2_with (at_builtin;refine wpList_app rfl (.tmp 28) (.tmp 30) eByte rfl (base:=w.heap.size) (n:=0) (c:=c) (A:=A) (vs:=[]) rfl (hown.alloc _) (A':=some ⟨wr.heap.size,0,none⟩) (m:=1) (c':=1) (us:=[bv (UInt8.ofNat (u / 2 ^ (8*i)))]) rfl (by rw[←Hx.out];exact RV.of_blk (Blk.new wr _ #[_])) rfl (map_bv_one [_]) (by decide) (by decide) (by simp;omega) (by simp) ?_;intro A2 c2 w2 hown2 hg2 hat2)
  have hB2:Below w.heap.size w w2:=(hB.alloc hbase _).grown hg2 (by simp;omega) fun k hk=>(hown.row k hk).1
  exact ⟨⟨i,[UInt8.ofNat (u / 2 ^ (8*i))],A2,c2,by omega,rfl,rfl,hown2,hB2,HR2⟩,by simp[intOf]⟩
 have hpos:(0:Int)<out.length:=by have:=List.length_pos_iff.2 ho;omega
 have HR2:=HR.next ho
 go_wp2_with (at_builtin;refine wpList_app rfl (.tmp 28) (.tmp 30) eByte rfl (base:=w.heap.size) (n:=out.length) (c:=c) (A:=A) (vs:=out.map bv) rfl (hown.alloc _) (A':=some ⟨wr.heap.size,0,none⟩) (m:=1) (c':=1) (us:=[bv (UInt8.ofNat (u / 2 ^ (8*i)))]) rfl (by rw[←Hx.out];exact RV.of_blk (Blk.new wr _ #[_])) rfl (map_bv_one [_]) (by unfold maxLen;omega) (by omega) (by simp;omega) (by simp) ?_;intro A2 c2 w2 hown2 hg2 hat2)
 have hB2:Below w.heap.size w w2:=(hB.alloc hbase _).grown hg2 (by simp;omega) fun k hk=>(hown.row k hk).1
 exact ⟨⟨i,out++[UInt8.ofNat (u / 2 ^ (8*i))],A2,c2,by omega,rfl,by rw[List.length_append];exact rfl,OwnB.app (ys:=[_]) hown2 rfl rfl,hB2,HR2⟩,by simp[intOf]⟩
theorem refForm_any (u:Nat) (w:World) (hu:u<18446744073709551616):Calls Try.prog 87 #[.int .u64 u] w (FreshB w (formL u)):=by
 by_cases h:u<248
 ·exact refForm_small u w h
 exact refForm_big u w h hu
theorem fold_any (n:Int) (w:World) (h1: -9223372036854775808≤n) (h2:n≤9223372036854775807):
  Calls Try.prog 88 #[.int .i64 n] w fun e w'=>e= .returned (.int .u64 (foldN n))∧w=w':=by
 by_cases h:n<0
 ·have e:(foldN n:Int)=2* -(n+1)+1:=by unfold foldN;rw[if_pos h];omega
  rw[e];clear e;go_enter Try.func88,Try.ntmps88
  go_wp2_with fail
  go_ret
  exact ⟨rfl,rfl⟩
 ·have e:(foldN n:Int)=2*n:=by unfold foldN;rw[if_neg h];omega
  rw[e];clear e;go_enter Try.func88,Try.ntmps88
  go_wp2_with fail
  go_ret
  exact ⟨rfl,rfl⟩
end
section
open Go.RowKit
def itemL (x:Item):List UInt8:=
 if x.kind=1 then formL x.n.toNat
 else if x.kind=2 then formL (foldN x.n)
 else if x.kind=3 then boolL (x.n==1)
 else if x.kind=6 then x.p.ys
 else formL x.p.ys.length++x.p.ys
theorem FreshB.mono {w w2 w':World} {ys:List UInt8} {e:Ending} (hb:Below w.heap.size w w2) (h:FreshB w2 ys e w'):FreshB w ys e w':=by
 obtain ⟨A,c,he,ho,hb'⟩:=h;exact ⟨A,c,he,ho.mono hb.size,hb.trans (hb'.mono hb.size)⟩
theorem refPut_any (x:Item) (w:World) (hp:Sl w x.p) (hok:x.ok) (hn:x.kind=1→0≤x.n) (hlen:x.p.ys.length≤70368744177664):Calls Try.prog 76 #[x.val] w (FreshB w (itemL x)):=by
 obtain ⟨kd,n,p⟩:=x;have hok1:=hok.n1;have hok2:=hok.n2;dsimp only at hok1 hok2 hlen hn;have hb0:∀o,Below w.heap.size w (w.alloc o):=fun o=>(Below.refl _ _).alloc (Nat.le_refl _) o;have Hb0:=Lib.hid hb0;have Hp:=Lib.hid hp;clear hok hb0 hp;by_cases k1:kd=1
 ·subst k1;have e:itemL ⟨1,n,p⟩=formL n.toNat:=rfl;rw[e];obtain ⟨m,rfl⟩:=Int.eq_ofNat_of_zero_le (hn rfl);rw[Int.toNat_natCast];have hm:m<18446744073709551616:=by omega
  have Hm:=Lib.hid hm;clear e hn hm;go_enter Try.func76,Try.ntmps76
  go_wp2_with fail
  refine (refForm_any m _ Hm.out).mono ?_;rintro e w2 hpost;obtain ⟨A1,c1,rfl,hown,hb⟩:=hpost;go_wp2_with fail
  go_ret
  exact FreshB.mono (Hb0.out _) ⟨A1,c1,rfl,hown,hb⟩
 by_cases k2:kd=2
 ·subst k2;have e:itemL ⟨2,n,p⟩=formL (foldN n):=rfl;rw[e];have hm:=foldN_lt n hok1 (by omega)
  have Hm:=Lib.hid hm;clear e hn hm k1;go_enter Try.func76,Try.ntmps76
  go_wp2_with fail
  refine (fold_any n _ hok1 hok2).mono ?_;rintro e w1 ⟨rfl,rfl⟩;go_wp2_with fail
  refine (refForm_any (foldN n) _ Hm.out).mono ?_;rintro e w2 hpost;obtain ⟨A1,c1,rfl,hown,hb⟩:=hpost;go_wp2_with fail
  go_ret
  exact FreshB.mono (Hb0.out _) ⟨A1,c1,rfl,hown,hb⟩
 by_cases k3:kd=3
 ·subst k3;have e:itemL ⟨3,n,p⟩=boolL (n==1):=rfl;rw[e];clear e hn k1 k2;have hB:∀o1 o2,Below w.heap.size w ((w.alloc o1).alloc o2):=fun o1 o2=>((Below.refl _ _).alloc (Nat.le_refl _) o1).alloc (by simp) o2
  have hO:∀(o1:Obj) (u:UInt8),OwnB ((w.alloc o1).alloc (.cells #[bv u] 5)) w.heap.size (some ⟨w.heap.size+1,0,none⟩) 1 1 [u]:=fun o1 u=>by
   have h:=Own.lit (w.alloc o1) (base:=w.heap.size) 5 1 1 #[bv u] (by simp) (by decide) rfl
   rwa [World.size_alloc] at h
  have HB:=Lib.hid hB;have HO:=Lib.hid hO;clear hB hO;by_cases h1:n=1
  ·subst h1;go_enter Try.func76,Try.ntmps76
   go_wp2_with fail
   go_ret
   exact ⟨_,_,rfl,HO.out _ 1,HB.out _ _⟩
  have h1b:(n==1)=false:=by simp;omega
  have e:boolL (n==1)=[0]:=by rw[h1b];rfl
  rw[e];clear e h1;go_enter Try.func76,Try.ntmps76
  go_wp2_with fail
  go_ret
  exact ⟨_,_,rfl,HO.out _ 0,HB.out _ _⟩
 by_cases k6:kd=6
 ·subst k6;have e:itemL ⟨6,n,p⟩=p.ys:=rfl;rw[e];clear e hn k1 k2 k3;have hrv:=fun o=>(Hp.out.below (Hb0.out o)).rv;have Hrv:=Lib.hid hrv;have Hnil:=Lib.hid Hp.out.nil;clear hrv;go_enter Try.func76,Try.ntmps76
  go_wp2_with (at_builtin;refine wpList_app rfl (.tmp 28) (.tmp 30) eByte rfl (base:=w.heap.size) (n:=0) (c:=0) (A:=none) (vs:=[]) rfl (Own.nil _ _ _ _) (A':=p.A) (m:=p.ys.length) (c':=p.c) (us:=p.ys.map bv) rfl (Hrv.out _) (by simp) (map_bv_one _) (by unfold maxLen;omega) (by omega) (by simp) Hnil.out ?_;intro A2 c2 w2 hown2 hg2 hat2)
  go_ret
  simp only[Nat.zero_add,List.nil_append] at hown2;refine ⟨A2,c2,rfl,hown2,(Hb0.out _).grown hg2 (by simp) fun k hk=>by cases hk⟩
 have e:itemL ⟨kd,n,p⟩=formL p.ys.length++p.ys:=by
  unfold itemL;rw[if_neg k1,if_neg k2,if_neg k3,if_neg k6]
 have j1:(kd==1)=false:=by simp;omega
 have j2:(kd==2)=false:=by simp;omega
 have j3:(kd==3)=false:=by simp;omega
 have j6:(kd==6)=false:=by simp;omega
 have He:=Lib.hid e;have hfl:=formL_le p.ys.length;clear e hn k1 k2 k3 k6;go_enter Try.func76,Try.ntmps76
 go_wp2_with fail
 refine (refForm_any p.ys.length _ (by omega)).mono ?_
 rintro e w2 hpost;obtain ⟨A1,c1,rfl,hown,hb⟩:=hpost;obtain ⟨hc2,hf2⟩:=bcell hb;have hz2:w.heap.size<w2.heap.size:=by have:=hb.size;simp only[World.size_alloc] at this;omega
 have hB2:=(Hb0.out _).trans (hb.mono (by simp))
 have hcell:w2.cell? ⟨w.heap.size,2,none⟩=some (.slice p.A p.ys.length p.c):=by rw[hc2 _ _ (by simp)];simp
 have Hrv:=Lib.hid (Hp.out.below hB2).rv;have Hnil:=Lib.hid Hp.out.nil;have hown':=hown.mono (base':=w.heap.size) (by simp)
 clear hc2 hf2 hb hown;go_wp2_with (at_builtin;refine wpList_app rfl (.tmp 37) (.tmp 39) eByte rfl (base:=w.heap.size) (n:=(formL p.ys.length).length) (c:=c1) (A:=A1) (vs:=(formL p.ys.length).map bv) rfl hown' (A':=p.A) (m:=p.ys.length) (c':=p.c) (us:=p.ys.map bv) rfl Hrv.out (by simp) (map_bv_one _) (by unfold maxLen;omega) (by omega) hB2.size Hnil.out ?_;intro A2 c2 w3 hown3 hg3 hat3)
 go_ret
 rw[He.out];refine ⟨A2,c2,by rw[List.length_append];rfl,OwnB.app hown3 rfl rfl,hB2.grown hg3 hB2.size fun k hk=>(hown'.row k hk).1⟩
end
section
open Go.RowKit
theorem flatMap_get {α β:Type} (f:α→List β) (n:Nat) (hf:∀x,(f x).length=n) (l:List α):∀(i j:Nat) (x:α),l[i]?=some x→j<n→(l.flatMap f)[i*n+j]?=(f x)[j]?:=by
 induction l with
 |nil=>intro i j x h;simp at h
 |cons a l ih=>
  intro i j x h hj;cases i with
  |zero=>
   simp only[List.getElem?_cons_zero,Option.some.injEq] at h;subst h;rw[List.flatMap_cons,Nat.zero_mul,Nat.zero_add,List.getElem?_append_left (by rw[hf];exact hj)]
  |succ i=>
   simp only[List.getElem?_cons_succ] at h;rw[List.flatMap_cons,List.getElem?_append_right (by rw[hf,Nat.succ_mul];omega),hf, ←ih i j x h hj]
   congr 1
   rw[Nat.succ_mul];omega
theorem length_flatMap_const {α β:Type} (f:α→List β) (n:Nat) (hf:∀x,(f x).length=n) (l:List α):(l.flatMap f).length=l.length*n:=by
 induction l with
 |nil=>simp
 |cons a l ih=>rw[List.flatMap_cons,List.length_append,ih,hf,List.length_cons,Nat.succ_mul,Nat.add_comm]
def itemCells (x:Item):List Value:=[.int .i64 x.kind,.int .i64 x.n,.slice x.p.A x.p.ys.length x.p.c]
structure Items (w:World) (A:Option Addr) (its:List Item):Prop where
 rv:RV w A (its.flatMap itemCells)
 sl:∀x∈its,Sl w x.p
 ok:∀x∈its,x.ok
theorem Items.below {w w':World} {A:Option Addr} {its:List Item} (h:Items w A its) (hb:Below w.heap.size w w'):Items w' A its:=⟨h.rv.below hb,fun x hx=>(h.sl x hx).below hb,h.ok⟩
theorem Items.at_ {w:World} {A:Option Addr} {its:List Item} (h:Items w A its) {k:Nat} (hk:k<its.length):
  ∃b off,A=some ⟨b,off,none⟩∧b<w.heap.size∧w.cell? ⟨b,off+k*3,none⟩=some (.int .i64 its[k].kind)∧w.cell? ⟨b,off+k*3+1,none⟩=some (.int .i64 its[k].n)∧
   w.cell? ⟨b,off+k*3+2,none⟩=some (.slice its[k].p.A its[k].p.ys.length its[k].p.c):=by
 have hl:(its.flatMap itemCells).length=its.length*3:=length_flatMap_const _ 3 (fun _=>rfl) _
 obtain ⟨b,off,hA,hb,hc⟩:=h.rv.at_ (by rw[hl];omega)
 have hg:=fun j hj=>flatMap_get itemCells 3 (fun _=>rfl) its k j its[k] (List.getElem?_eq_getElem hk) hj
 refine ⟨b,off,hA,hb,hc _ _ (hg 0 (by omega)),?_,?_⟩
 ·have:=hc _ _ (hg 1 (by omega))
  rwa [←Nat.add_assoc] at this
 ·have:=hc _ _ (hg 2 (by omega))
  rwa [←Nat.add_assoc] at this
end
end Go.Proofs.Ytcmpmhlcfalbhaa
