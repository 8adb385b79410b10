import Derived.Test.YtcmpmhlcfalbhaaV37
import Derived.Test.YtcmpmhlcfalbhaaV10
import Derived.Test.YtcmpmhlcfalbhaaV31
namespace Go.Proofs.Ytcmpmhlcfalbhaa
open Go.RowKit
theorem wrow_info:(Try.prog.info? 28).map (fun i=>(i.zero,i.size,i.bytes))=some (some (.slice none 0 0),1,24):=by kernel_rfl
theorem eWRow:Elem Try.prog 69 28 1 24:=elem_of Try.underlying69 wrow_info rfl (by decide)
theorem row_info4:(Try.prog.info? 29).map (fun i=>(i.zero,i.size,i.bytes))=some (some (.slice none 0 0),1,24):=by kernel_rfl
theorem eIRow4:Elem Try.prog 28 29 1 24:=elem_of Try.underlying28 row_info4 rfl (by decide)
def Box (w:World) (v:Value) (x:Int):Prop:=∃b,v= .slice (some ⟨b,0,none⟩) 1 1∧Blk w b 3 #[.int .i64 x]
def Keeps (w w':World):Prop:=∀b x,Blk w b 3 #[.int .i64 x]→Blk w' b 3 #[.int .i64 x]
theorem Keeps.below {w w':World} (hb:Below w.heap.size w w'):Keeps w w':=fun _ _ h=>h.below hb h.lt
theorem Keeps.only {w w':World} {e:TypeId} {base size n c:Nat} {A:Option Addr} {vs:List Value} (h:Own w base e size A n c vs) (hne:e≠3) (ho:Only (fun b=>A.map (·.block)=some b) w w'):Keeps w w':=
 fun b _ hb=>hb.only ho fun e=>own_blk_ne h hb hne b e rfl
theorem Keeps.trans {a b c:World} (h:Keeps a b) (k:Keeps b c):Keeps a c:=fun g x e=>k g x (h g x e)
theorem Box.keep {w w':World} {v:Value} {x:Int} (h:Box w v x) (k:Keeps w w'):Box w' v x:=by
 obtain ⟨b,e,hb⟩:=h;exact ⟨b,e,k _ _ hb⟩
def BoxM (w:World) (ps:List LG) (mk:Nat→List Value) (k j:Nat):Prop:=∀t i,(t<k∨t=k∧i<j)→i<nOf ps t→∃v,(mk t)[i]?=some v∧Box w v (1000*(t:Int)+(i:Int))
def BoxT (w:World) (t:Nat) (us:List Value):Prop:=∀i,i<us.length→∃v,us[i]?=some v∧Box w v (-(1000*(t:Int))-(i:Int)-1)
theorem BoxM.keep {w w':World} {ps:List LG} {mk:Nat→List Value} {k j:Nat} (h:BoxM w ps mk k j) (hk:Keeps w w'):BoxM w' ps mk k j:=fun t i h1 h2=>by
 obtain ⟨v,h3,h4⟩:=h t i h1 h2;exact ⟨v,h3,h4.keep hk⟩
theorem BoxT.keep {w w':World} {t:Nat} {us:List Value} (h:BoxT w t us) (hk:Keeps w w'):BoxT w' t us:=fun i h1=>by
 obtain ⟨v,h3,h4⟩:=h i h1;exact ⟨v,h3,h4.keep hk⟩
theorem BoxT.push {w:World} {t:Nat} {us:List Value} {v:Value} (h:BoxT w t us) (hv:Box w v (-(1000*(t:Int))-(us.length:Int)-1)):BoxT w t (us++[v]):=fun i h1=>by
 by_cases h2:i<us.length
 ·obtain ⟨u,h3,h4⟩:=h i h2;exact ⟨u,by rw[List.getElem?_append_left h2];exact h3,h4⟩
 rw[List.length_append,List.length_singleton] at h1;have h3:i=us.length:=by omega
 subst h3;exact ⟨v,by simp,hv⟩
structure WrL (w wr:World) (base:Nat) (ps:List LG) (vs mk:Nat→List Value) (k j:Nat):Prop where
 len:∀t,(mk t).length=nOf ps t
 full:FullG wr base 29 1 ps mk vs k j
 only:Only (fun b=>∃p∈ps,p.A.map (·.block)=some b) w wr
 box:BoxM wr ps mk k j
theorem WrL.start {w:World} {base:Nat} {L:Option Addr} {ps:List LG} {vs:Nat→List Value} (h:ListsH w base 29 1 L ps vs):WrL w w base ps vs (fun t=>List.replicate (nOf ps t) undef) 0 0:=
 ⟨fun t=>List.length_replicate,h.full,Only.refl _ _,fun t i h1=>by omega⟩
theorem WrL.put {w wr wx:World} {base:Nat} {ps:List LG} {vs mk:Nat→List Value} {k j:Nat} (h:WrL w wr base ps vs mk k j) (hb:Below wr.heap.size wr wx)
  (hsole:∀(i j:Nat) (p r:LG),i≠j→ps[i]?=some p→ps[j]?=some r→∀b,p.A.map (·.block)=some b→r.A.map (·.block)≠some b)
  {p:LG} (hp:ps[k]?=some p) (g:Nat) (hA:p.A=some ⟨g,0,none⟩) (hlen:(vs k).length=p.n) (hj:j<p.n) (u:Value) (hu:Box wx u (1000*(k:Int)+(j:Int))):
  ∃mk',WrL w (wx.setCell ⟨g,j,none⟩ u) base ps vs mk' k (j+1):=by
 have hl:=h.len k
 rw[nOf_eq hp] at hl
 refine ⟨fun t=>if t=k then (mk k).set j u else mk t,fun t=>?_,?_,?_,fun t i h1 h2=>?_⟩
 ·by_cases ht:t=k
  ·subst ht;rw[if_pos rfl,List.length_set];exact h.len t
  rw[if_neg ht];exact h.len t
 ·have hF:FullG wx base 29 1 ps (fun t=>if t=k then (mk k).set j u else mk t) vs k j:=⟨fun t r hr=>by
   have h1:=Own.below (h.full.own t r hr) hb (Nat.le_refl _);by_cases ht:t<k
   ·rw[if_pos ht] at h1 ⊢;rw[if_neg (by omega)]
    exact h1
   rw[if_neg ht] at h1 ⊢;by_cases ht2:t=k
   ·subst ht2;rw[if_pos rfl] at h1 ⊢;rw[if_pos rfl];have e:fillC ((mk t).set j u) (vs t) j=fillC (mk t) (vs t) j:=by unfold fillC;rw[List.take_set_of_le (Nat.le_refl _)]
    rw[e];exact h1
   rw[if_neg ht2] at h1 ⊢;exact h1⟩
  exact hF.put hsole hp g hA (by rw[if_pos rfl,List.length_set,hl,hlen]) u (by rw[if_pos rfl,List.getElem?_set_self (by omega)])
 ·exact (h.only.trans (Only.of_fresh hb)).setCell (p:=⟨g,j,none⟩) (.inl ⟨p,List.mem_of_getElem? hp,by rw[hA];rfl⟩) u
 ·have ho:Own wx base 29 1 p.A p.n p.c (fillC (mk k) (vs k) j):=by
   have h1:=h.full.own k p hp;rw[if_neg (Nat.lt_irrefl _),if_pos rfl] at h1;exact Own.below h1 hb (Nat.le_refl _)
  have hk:Keeps wx (wx.setCell ⟨g,j,none⟩ u):=Keeps.only ho (by decide) ((Only.refl _ wx).setCell (p:=⟨g,j,none⟩) (.inl (by rw[hA];rfl)) u)
  by_cases ht:t=k
  ·subst ht;rw[if_pos rfl];by_cases hi:i=j
   ·subst hi;exact ⟨u,List.getElem?_set_self (by omega),hu.keep hk⟩
   obtain ⟨v,h3,h4⟩:=h.box t i (by omega) h2
   exact ⟨v,by rw[List.getElem?_set_ne (fun e=>hi e.symm)];exact h3,(h4.keep (Keeps.below hb)).keep hk⟩
  rw[if_neg ht];obtain ⟨v,h3,h4⟩:=h.box t i (by omega) h2
  exact ⟨v,h3,(h4.keep (Keeps.below hb)).keep hk⟩
theorem WrL.next {w wr:World} {base:Nat} {ps:List LG} {vs mk:Nat→List Value} {k:Nat} (h:WrL w wr base ps vs mk k (vs k).length) (hl:(vs k).length=nOf ps k):WrL w wr base ps vs mk (k+1) 0:=
 ⟨h.len,h.full.next (by rw[h.len,hl]),h.only,fun t i h1 h2=>h.box t i (by
  rcases h1 with h1|⟨_,h1⟩
  ·by_cases ht:t=k
   ·subst ht;exact .inr ⟨rfl,by omega⟩
   exact .inl (by omega)
  omega) h2⟩
theorem MidG.congr {w0 wr:World} {B base:Nat} {e rowT:TypeId} {sz:Nat} {ps:List LG} {mk tl tl':Nat→List Value} {K i:Nat} {GA:Nat→Option Addr} {GC:Nat→Nat} {AM:Option Addr} {cM:Nat} {p:LG} {m:Nat} {us:List Value} {G:Option Addr} {C:Nat}
  (h:MidG w0 wr B base e rowT sz ps mk tl K i GA GC AM cM p m us G C) (ht:∀t,t<i→tl t=tl' t):MidG w0 wr B base e rowT sz ps mk tl' K i GA GC AM cM p m us G C:=
 ⟨h.row,fun t r h1 h2=>by rw[←ht t h1];exact h.done t r h1 h2,h.wait,h.sole,h.only,h.size,h.cur,h.crv,h.cb,h.curs⟩
theorem grown_keeps {w w':World} {e:TypeId} {base size n c:Nat} {A A2:Option Addr} {vs:List Value} (h:Own w base e size A n c vs) (hne:e≠3)
  (hA:(A2=A∧A≠none∧w.grownBy w' (A.map (·.block)))∨((∀b o,A2=some ⟨b,o,none⟩→w.heap.size≤b)∧w.grownBy w' none)):Keeps w w':=by
 rcases hA with ⟨-,-,h3⟩|⟨-,h3⟩
 ·exact Keeps.only h hne (Only.of_grown h3 fun k hk=>hk)
 ·exact Keeps.only h hne (Only.of_grown h3 fun k hk=>by cases hk)
set_option maxRecDepth 100000 in
set_option maxHeartbeats 4000000 in
theorem grownLists_any (L:Option Addr) (cL base:Nat) (ps:List LG) (vs:Nat→List Value) (w:World) (h:ListsH w base 29 1 L ps vs) (hbase:base≤w.heap.size):
  Calls Try.prog 33 #[.slice L ps.length cL] w fun e w'=>e= .returned (.bool true)∧Only (fun b=>∃p∈ps,p.A.map (·.block)=some b) w w':=by
 have H:=Lib.hid h
 obtain ⟨N,hN⟩:∃N,N=ps.length:=⟨_,rfl⟩
 have hN64:N≤1000:=by have:=h.many;omega
 rw[←hN]
 have HN:=Lib.hid hN
 have HF0:=Lib.hid (WrL.start h)
 clear h hN
 go_enter Try.func33,Try.ntmps33
 go_wp2_with fail
 go_loopw [3] (fun v wr=>∃(k:Nat) (mk:Nat→List Value),k≤N∧v= .int .i64 k∧WrL w wr base ps vs mk k 0) (fun v _=>N-(intOf v).toNat)
 case atStart=>exact ⟨0,_,Nat.zero_le _,rfl,HF0.out⟩
 case round=>
  rename World=>w1;obtain ⟨k,mk,hk,rfl,hF⟩:=hrel;have hL1:RV w1 L (ps.map LG.val):=H.out.rv2 hF.only;by_cases hlt:k<N
  ·have g1:(k:Int)<(N:Int):=by omega
   have hkl:k<ps.length:=by have:=HN.out;omega
   obtain ⟨p,hp⟩:∃p,ps[k]?=some p:=⟨_,List.getElem?_eq_getElem hkl⟩;obtain ⟨bL,oL,rfl,hbL,hcL⟩:=hL1.at_ (by rw[List.length_map];omega)
   have hh:=hcL k _ (vals_get hp);have hpn:p.n≤1000000:=H.out.small p (List.mem_of_getElem? hp);have Hp:=Lib.hid hp;have HF:=Lib.hid hF;obtain ⟨pA,pn,pc⟩:=p;clear hp hF hL1 hcL;dsimp only[LG.val] at hh hpn;go_wp2_with fail
   clear hh;go_loopw [4] (fun v wr=>∃(j:Nat) (mk:Nat→List Value),j≤pn∧v= .int .i64 j∧WrL w wr base ps vs mk k j) (fun v _=>pn-(intOf v).toNat)
   case atStart=>exact ⟨0,_,Nat.zero_le _,rfl,HF.out⟩
   rename World=>w2;clear HF mk;obtain ⟨j,mk,hj,rfl,hF⟩:=hrel;obtain ⟨bL',oL',e,hbL2,hcL⟩:=(H.out.rv2 hF.only).at_ (by rw[List.length_map];omega)
   injection e with e
   injection e with e1 e2
   subst e1 e2;have hh:=hcL k _ (vals_get Hp.out);dsimp only[LG.val] at hh;clear hcL;by_cases hjn:j<pn
   ·have g2:(j:Int)<(pn:Int):=by omega
    have ho:=hF.full.own k _ Hp.out;rw[if_neg (Nat.lt_irrefl _),if_pos rfl] at ho;obtain ⟨g,hA,hg1,hg2⟩:=ownG_some ho (by dsimp only;omega)
    dsimp only at hA;subst hA;have hvl:=(H.out.own k _ Hp.out).1;dsimp only at hvl;have hml:=hF.len k;rw[nOf_eq Hp.out] at hml;dsimp only at hml;have hfl:=fillC_len (mk k) (vs k) j (by omega) (by omega)
    obtain ⟨w3,hw3⟩:∃w',w'=w2.alloc (.cells #[.int .i64 (1000*(k:Int)+(j:Int))] 3):=⟨_,rfl⟩;have hb23:Below w2.heap.size w2 w3:=by rw[hw3];exact (Below.refl _ _).alloc (Nat.le_refl _) _
    obtain ⟨c0,f0,gl⟩:=ownG_at (Own.below ho hb23 (Nat.le_refl _)) j (by omega)
    generalize (fillC (mk k) (vs k) j)[j]=z0 at*
    obtain ⟨mk2,HF1⟩:=hF.put hb23 H.out.sole Hp.out g rfl (by dsimp only;omega) hjn (.slice (some ⟨w2.heap.size,0,none⟩) 1 1) ⟨_,rfl,by rw[hw3];exact Blk.new _ _ _⟩
    have HF1:=Lib.hid HF1;obtain ⟨e1,-⟩:=bcell hb23;have hh3:w3.cell? ⟨bL,oL+k,none⟩=some (.slice (some ⟨g,0,none⟩) pn pc):=by rw[e1 _ _ hbL2];exact hh
    have Hw3:=Lib.hid hw3;have hbl3:bL<w3.heap.size:=Nat.lt_of_lt_of_le hbL2 hb23.size;clear ho hml hvl hfl hF hb23 hw3 e1;go_upto_region 7 with (fail)
    go_wp2_with (refine wpList_at 38 rfl ?_;refine wp_stop ?_)
    try refine ⟨?_⟩
    rw[←Hw3.out];go_wp2_with fail
    exact ⟨⟨j+1,mk2,by omega,by go_num,HF1.out⟩,by simp[intOf];omega⟩
   obtain rfl:j=pn:=by omega
   have hvl:=(H.out.own k _ Hp.out).1;dsimp only at hvl;rw[show j=(vs k).length by omega] at hF
   have HFn:=Lib.hid (hF.next (by rw[nOf_eq Hp.out];dsimp only;omega))
   clear hF hvl;go_wp2_with fail
   exact ⟨⟨k+1,mk,by omega,by go_num,HFn.out⟩,by simp[intOf];omega⟩
  obtain rfl:k=N:=by omega
  have hown:∀t p,ps[t]?=some p→Own w1 base 29 1 p.A p.n p.c (mk t):=fun t p hp=>by
   have h1:=hF.full.own t p hp;rw[if_pos (by have:=(List.getElem?_eq_some_iff.1 hp).1;have:=HN.out;omega)] at h1
   exact h1
  have HT0:=Lib.hid (TailG.start (e:=29) (rowT:=28) (tl:=fun _=>[]) (K:=20) hown rfl);have Hlt:=Lib.hid (show ∀p∈ps,∀b,p.A.map (·.block)=some b→b<w1.heap.size from fun p hp b e=>by have:=(H.out.row p hp b e).2.2;have:=hF.only.size;omega)
  have Hform:=Lib.hid (show ∀p∈ps,∀b,p.A.map (·.block)=some b→p.A=some ⟨b,0,none⟩ from fun p hp b e=>(H.out.row p hp b e).1)
  have HO:=Lib.hid hF.only;have HBx:=Lib.hid (show BoxM w1 ps mk k 0 from hF.box)
  have HmL:=Lib.hid hF.len;have hbs:base≤w1.heap.size:=by have:=hF.only.size;omega
  clear hown hF hL1;go_wp2_with fail
  go_loopw [5,6] (fun u v wr=>∃(i:Nat) (GA:Nat→Option Addr) (GC:Nat→Nat) (AM:Option Addr) (cM:Nat) (tl:Nat→List Value),i≤k∧v= .int .i64 i∧u= .slice AM i cM∧TailG w1 wr w1.heap.size base 29 28 1 ps mk tl 20 i GA GC AM cM∧Keeps w1 wr∧∀t,t<i→(tl t).length=20∧BoxT wr t (tl t)) (fun _ v _=>k-(intOf v).toNat)
  case atStart=>exact ⟨0,_,_,_,_,_,Nat.zero_le _,rfl,rfl,HT0.out,Keeps.below (Below.refl _ _),fun t h=>absurd h (Nat.not_lt_zero _)⟩
  rename World=>w2;clear HT0;obtain ⟨i,GA,GC,AM,cM,tl,hi,rfl,rfl,hT,hK,hBT⟩:=hrel;have HK:=Lib.hid hK;have HBT:=Lib.hid hBT;clear hK hBT;by_cases hik:i<k
  ·have g1:(i:Int)<(k:Int):=by omega
   have hil:i<ps.length:=by have:=HN.out;omega
   obtain ⟨p,hp⟩:∃p,ps[i]?=some p:=⟨_,List.getElem?_eq_getElem hil⟩;obtain ⟨bL,oL,hLe,hbL,hcL⟩:=(H.out.rv2 (HO.out.trans hT.only)).at_ (by rw[List.length_map];omega)
   subst hLe;have hh:=hcL i _ (vals_get hp);have hpn:p.n≤1000000:=H.out.small p (List.mem_of_getElem? hp);have HM0:=Lib.hid (MidG.start hT hp Hlt.out H.out.sole);have Hp:=Lib.hid hp;obtain ⟨pA,pn,pc⟩:=p;clear hp hT hcL;dsimp only[LG.val] at hh hpn;go_wp2_with fail
   clear hh;go_loopw [7,8] (fun u v wr=>∃(m:Nat) (G:Option Addr) (C:Nat) (us:List Value),m≤20∧v= .int .i64 m∧u= .slice G (pn+m) C∧MidG w1 wr w1.heap.size base 29 28 1 ps mk tl 20 i GA GC AM cM ⟨pA,pn,pc⟩ m us G C∧us.length=m∧BoxT wr i us∧Keeps w2 wr) (fun _ v _=>20-(intOf v).toNat)
   case atStart=>exact ⟨0,_,_,_,Nat.zero_le _,rfl,rfl,HM0.out,rfl,fun j h=>absurd h (Nat.not_lt_zero _),Keeps.below (Below.refl _ _)⟩
   rename World=>w3;clear HM0;obtain ⟨m,G,C,us,hm,rfl,rfl,hM,hul,hBu,hK2⟩:=hrel;have Hul:=Lib.hid hul;have HBu:=Lib.hid hBu;have HK2:=Lib.hid hK2;clear hul hBu hK2;by_cases hm40:m<20
   ·have g2:(m:Int)<20:=by omega
    obtain ⟨w4,hw4⟩:∃w',w'=(w3.alloc (.cells #[.int .i64 (-(1000*(i:Int))-(m:Int)-1)] 3)).alloc (.cells #[.slice (some ⟨w3.heap.size,0,none⟩) 1 1] 29):=⟨_,rfl⟩;have hb34:Below w3.heap.size w3 w4:=by rw[hw4];exact ((Below.refl _ _).alloc (Nat.le_refl _) _).alloc (by simp) _
    have hU:Blk w4 (w3.heap.size+1) 29 #[.slice (some ⟨w3.heap.size,0,none⟩) 1 1]:=by rw[hw4];exact Blk.new2 _ _ _ _
    have HBn:=Lib.hid (show Box w4 (.slice (some ⟨w3.heap.size,0,none⟩) 1 1) (-(1000*(i:Int))-(m:Int)-1) from ⟨_,rfl,by rw[hw4];exact (Blk.new _ _ _).alloc _⟩)
    have Hcur:=Lib.hid (show Own w4 base 29 1 G (pn+m) C (mk i++us) from Own.below hM.cur hb34 (Nat.le_refl _))
    have HM:=Lib.hid hM;have Hb34:=Lib.hid hb34;have HU:=Lib.hid hU;have Hw4:=Lib.hid hw4;have hbs4:base≤w4.heap.size:=by have:=hM.size;have:=hb34.size;omega
    clear hM hb34 hU hw4;go_wp2_with (refine wpList_at 62 rfl ?_;refine wp_stop ?_)
    try refine ⟨?_⟩
    rw[←Hw4.out];refine wpList_app2 rfl (.tmp 53) (.tmp 61) eIRow4 rfl rfl Hcur.out (m:=1) (c':=1) (us:=[.slice (some ⟨w3.heap.size,0,none⟩) 1 1]) rfl (RV.of_blk HU.out) rfl (by intro v hv;simp only[List.mem_cons,List.not_mem_nil,or_false] at hv;subst hv;rfl) (by decide) (by unfold maxLen;omega) (by omega) hbs4 ?_
    intro A6 c6 w6 hown6 hA6;have HMn:=Lib.hid (HM.out.step Hp.out (by decide) Hlt.out (Nat.le_refl _) Hform.out H.out.sole Hb34.out hown6 hA6)
    have hk46:=grown_keeps Hcur.out (by decide) hA6
    have HKn:=Lib.hid ((Keeps.below Hb34.out).trans hk46);have HBn2:=Lib.hid (BoxT.push (v:=.slice (some ⟨w3.heap.size,0,none⟩) 1 1) (HBu.out.keep HKn.out) (by rw[Hul.out];exact HBn.out.keep hk46))
    clear hown6 hA6 HM HU Hb34 Hcur Hw4 hk46 HBn;go_wp2_with fail
    exact ⟨⟨m+1,_,_,_,by omega,by go_num,rfl,HMn.out,by rw[List.length_append,Hul.out];rfl,HBn2.out,HK2.out.trans HKn.out⟩,by simp[intOf];omega⟩
   obtain rfl:m=20:=by omega
   obtain ⟨w4,hw4⟩:∃w',w'=w3.alloc (.cells #[.slice G (pn+20) C] 28):=⟨_,rfl⟩;have hb34:Below w3.heap.size w3 w4:=by rw[hw4];exact (Below.refl _ _).alloc (Nat.le_refl _) _
   have hU:Blk w4 w3.heap.size 28 #[.slice G (pn+20) C]:=by rw[hw4];exact Blk.new _ _ _
   have Hrow:=Lib.hid (Own.below hM.row hb34 (Nat.le_refl _));obtain ⟨tl2,ht2,ht3⟩:∃f:Nat→List Value,f i=us∧∀t,t<i→tl t=f t:=⟨fun t=>if t=i then us else tl t,if_pos rfl,fun t ht=>(if_neg (by omega)).symm⟩
   have HM:=Lib.hid (show MidG w1 w3 w1.heap.size base 29 28 1 ps mk tl2 20 i GA GC AM cM ⟨pA,pn,pc⟩ 20 (tl2 i) G C from by rw[ht2];exact hM.congr ht3)
   have Ht2:=Lib.hid ht2;have Ht3:=Lib.hid ht3;clear ht2 ht3;have Hb34:=Lib.hid hb34;have HU:=Lib.hid hU;have Hw4:=Lib.hid hw4;have hbs4:w1.heap.size≤w4.heap.size:=by have:=hM.size;have:=hb34.size;omega
   clear hM hb34 hU hw4;go_wp2_with (refine wpList_at 66 rfl ?_;refine wp_stop ?_)
   try refine ⟨?_⟩
   rw[←Hw4.out];refine wpList_app rfl (.tmp 63) (.tmp 65) eWRow rfl rfl Hrow.out (m:=1) (c':=1) (us:=[.slice G (pn+20) C]) rfl (RV.of_blk HU.out) rfl (by intro v hv;simp only[List.mem_cons,List.not_mem_nil,or_false] at hv;subst hv;rfl) (by unfold maxLen;omega) (by omega) hbs4 (by intro h;cases h) ?_
   intro A6 c6 w6 hown6 hg6 hA6;have HTn:=Lib.hid (HM.out.last Hp.out (by decide) Hlt.out (Nat.le_refl _) Hb34.out hown6 hg6)
   have hk46:Keeps w4 w6:=Keeps.only Hrow.out (by decide) (Only.of_grown hg6 fun k hk=>hk)
   have HKn:=Lib.hid ((Keeps.below Hb34.out).trans hk46)
   have HBTn:=Lib.hid (show ∀t,t<i+1→(tl2 t).length=20∧BoxT w6 t (tl2 t) from fun t ht=>by
    by_cases h1:t=i
    ·subst h1;rw[Ht2.out];exact ⟨Hul.out,HBu.out.keep HKn.out⟩
    rw[←Ht3.out t (by omega)]
    obtain ⟨h2,h3⟩:=HBT.out t (by omega)
    exact ⟨h2,(h3.keep HK2.out).keep HKn.out⟩)
   clear hown6 hg6 hA6 HM HU Hb34 Hrow Hw4 hk46;go_wp2_with fail
   exact ⟨⟨i+1,_,_,_,_,_,by omega,by go_num,rfl,HTn.out,(HK.out.trans HK2.out).trans HKn.out,HBTn.out⟩,by simp[intOf];omega⟩
  have hik2:i=k:=by omega
  subst hik2;have HT:=Lib.hid hT;clear hT;go_wp2_with fail
  go_loopw [9] (fun v wr=>∃q:Nat,q≤i∧v= .int .i64 q∧Below w2.heap.size w2 wr) (fun v _=>i-(intOf v).toNat)
  case atStart=>exact ⟨0,Nat.zero_le _,rfl,Below.refl _ _⟩
  rename World=>w3;obtain ⟨q,hq,rfl,hB⟩:=hrel;by_cases hqi:q<i
  ·have g1:(q:Int)<(i:Int):=by omega
   have hil:q<ps.length:=by have:=HN.out;omega
   obtain ⟨p,hp⟩:∃p,ps[q]?=some p:=⟨_,List.getElem?_eq_getElem hil⟩;have hpn:p.n≤1000000:=H.out.small p (List.mem_of_getElem? hp);obtain ⟨bL,oL,hLe,hbL,hcL⟩:=(H.out.rv2 (HO.out.trans HT.out.only)).at_ (by rw[List.length_map];omega)
   subst hLe;have hh:=hcL q _ (vals_get hp);obtain ⟨gM,rfl,r0,rl0⟩:=rowT_at HT.out.row hp hqi;obtain ⟨hoi,hri,-⟩:=HT.out.done q p hqi hp;obtain ⟨gA,hgA,-,hgA2⟩:=ownG_some hoi (by omega)
   rw[hgA] at hoi r0;have Hmkl:=Lib.hid (show (mk q).length=p.n by rw[HmL.out,nOf_eq hp])
   have Hmk:=Lib.hid (show ∀j,j<p.n→∃v,(mk q)[j]?=some v∧Box w2 v (1000*(q:Int)+(j:Int)) from fun j hj=>(HBx.out.keep HK.out) q j (.inl hqi) (by rw[nOf_eq hp];exact hj))
   have Htl:=Lib.hid (HBT.out q hqi);have Hoi:=Lib.hid hoi;have Hri:=Lib.hid hri;have HB:=Lib.hid hB;obtain ⟨e1,-⟩:=bcell hB;have hh4:w3.cell? ⟨bL,oL+q,none⟩=some p.val:=by rw[e1 _ _ hbL];exact hh
   have Hh3:=Lib.hid hh;have Hr3:=Lib.hid r0;have hz4:=hB.size;obtain ⟨pA,pn,pc⟩:=p;dsimp only[LG.val] at hh4 hpn;try dsimp only at Hr3
   try dsimp only at Hoi
   try dsimp only at Hri
   try dsimp only at Hmk
   try dsimp only at Hmkl
   clear hoi hri hp hB e1 hh r0 hcL hgA;have hlL:bL<w3.heap.size:=by omega
   have hlM:gM<w3.heap.size:=by omega
   go_wp2_with fail
   go_loopw [11] (fun v wr=>∃j:Nat,j≤pn∧v= .int .i64 j∧Below w2.heap.size w2 wr) (fun v _=>pn-(intOf v).toNat)
   case atStart=>exact ⟨0,Nat.zero_le _,rfl,HB.out⟩
   rename World=>w5;obtain ⟨j,hj,rfl,hB⟩:=hrel;obtain ⟨e1,-⟩:=bcell hB;have hz5:=hB.size;have hh5:w5.cell? ⟨bL,oL+q,none⟩=some (.slice pA pn pc):=by rw[e1 _ _ hbL];exact Hh3.out
   have r5:w5.cell? ⟨gM,q,none⟩=some (.slice (some ⟨gA,0,none⟩) (pn+20) (GC q)):=by rw[e1 _ _ rl0];exact Hr3.out
   have Hoi5:=Own.below Hoi.out hB (Nat.le_refl _);have Hri5:=Hri.out.below hB;have hlL5:bL<w5.heap.size:=by omega
   have hlM5:gM<w5.heap.size:=by omega
   have hgA5:gA<w5.heap.size:=by omega
   have HB5:=Lib.hid hB;by_cases hj1:j<pn
   ·have g5:(j:Int)<(pn:Int):=by omega
    have g6:(j:Int)<(pn:Int)+20:=by omega
    obtain ⟨v,m0,b,rfl,hbx⟩:=Hmk.out j hj1;have hb5:=hbx.below hB hbx.lt;have y1:w5.cell? ⟨b,0,none⟩=some (.int .i64 (1000*(q:Int)+(j:Int))):=hb5.cell 0;have yl:=hb5.lt
    have x0:w5.cell? ⟨gA,j,none⟩=some (.slice (some ⟨b,0,none⟩) 1 1):=by
     have h1:(mk q++tl q)[j]?=some (.slice (some ⟨b,0,none⟩) 1 1):=by rw[List.getElem?_append_left (by have:=Hmkl.out;omega)];exact m0
     obtain ⟨h2,h3⟩:=List.getElem?_eq_some_iff.1 h1;have h4:=(ownG_at Hoi5 j h2).1;rw[h3] at h4;exact h4
    obtain ⟨bp,op,hpA,hbp,hcp⟩:=Hri5.at_ (by have:=Hmkl.out;omega)
    have y0:=hcp _ _ m0;subst hpA;clear hcp m0 Hoi5 Hri5 e1 hB hbx hb5;go_wp2_with fail
    exact ⟨⟨j+1,by omega,by go_num,HB5.out⟩,by simp[intOf];omega⟩
   have hj3:j=pn:=by omega
   subst hj3;clear Hoi5 Hri5 e1 hB hh5 r5;go_wp2_with fail
   go_loopw [12] (fun v wr=>∃m:Nat,m≤20∧v= .int .i64 m∧Below w2.heap.size w2 wr) (fun v _=>20-(intOf v).toNat)
   case atStart=>exact ⟨0,Nat.zero_le _,rfl,HB5.out⟩
   rename World=>w6;obtain ⟨m,hm,rfl,hB⟩:=hrel;obtain ⟨e1,-⟩:=bcell hB;have hz6:=hB.size;have r6:w6.cell? ⟨gM,q,none⟩=some (.slice (some ⟨gA,0,none⟩) (j+20) (GC q)):=by rw[e1 _ _ rl0];exact Hr3.out
   have Hoi6:=Own.below Hoi.out hB (Nat.le_refl _);have hlM6:gM<w6.heap.size:=by omega
   have hgA6:gA<w6.heap.size:=by omega
   have HB6:=Lib.hid hB;by_cases hm20:m<20
   ·have g7:(m:Int)<20:=by omega
    obtain ⟨htl,hbt⟩:=Htl.out;obtain ⟨v,m0,b,rfl,hbx⟩:=hbt m (by omega)
    have hb6:=hbx.below hB hbx.lt;have y1:w6.cell? ⟨b,0,none⟩=some (.int .i64 (-(1000*(q:Int))-(m:Int)-1)):=hb6.cell 0;have yl:=hb6.lt
    have x0:w6.cell? ⟨gA,j+m,none⟩=some (.slice (some ⟨b,0,none⟩) 1 1):=by
     have h1:(mk q++tl q)[j+m]?=some (.slice (some ⟨b,0,none⟩) 1 1):=by
      have hml:=Hmkl.out;rw[List.getElem?_append_right (by omega),hml,Nat.add_sub_cancel_left]
      exact m0
     obtain ⟨h2,h3⟩:=List.getElem?_eq_some_iff.1 h1;have h4:=(ownG_at Hoi6 (j+m) h2).1;rw[h3] at h4;exact h4
    clear m0 Hoi6 e1 hB hbx hb6 htl hbt;go_wp2_with fail
    exact ⟨⟨m+1,by omega,by go_num,HB6.out⟩,by simp[intOf];omega⟩
   have hm3:m=20:=by omega
   subst hm3;clear Hoi6 e1 hB;go_wp2_with fail
   exact ⟨⟨q+1,by omega,by go_num,HB6.out⟩,by simp[intOf];omega⟩
  have hqi2:q=i:=by omega
  subst hqi2;have HB:=Lib.hid hB;clear hB;go_wp2_with fail
  go_ret
  exact ⟨rfl,(HO.out.trans HT.out.only).trans (Only.of_fresh HB.out)⟩
end Go.Proofs.Ytcmpmhlcfalbhaa
