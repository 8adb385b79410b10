import Derived.Test.YtcmpmhlcfalbhaaV11
namespace Go.Proofs.Ytcmpmhlcfalbhaa
open Go.RowKit
section
variable {P:Program} {ops:Array Oper} {Q:Exit→Act→World→Prop} {S:World→Prop} {n:Nat} {L:Array Bool→Act→World→Prop}
theorem headW_ready {f:Nat} {listed:Array Bool} {a:Act} {w:World} (l:List Nat) (hr:Region.ready .any ops listed=l) (hne:l≠[])
  (h:∀i∈l,∃oi,ops[i]?=some oi∧i<n∧Region.wanted oi (yielded ops a.tmps)=true∧∀K:Act→World→Prop,Shut (∀a' w',S w'→(S w'→HeadW P ops Q S n L f (listed.setIfInBounds i true) a' w')→K a' w')→Oper.wp P oi a w K Q):HeadW P ops Q S n L (f+1) listed a w:=fun inv=>by
 refine ⟨fun h0=>(by rw[hr] at h0;exact hne h0),fun k hk=>?_⟩
 have hk2:=hk
 rw[hr] at hk2
 obtain ⟨oi,h1,h2,h3,h4⟩:=h k hk2
 exact ⟨h2,wpOp_step h1 fun K' hK=>by rw[if_pos h3];exact h4 K' fun a' w' hS hW=>hK a' w' ⟨hS,hW hS (inv.set hk h2)⟩⟩
def updN {α:Type} (u:Nat→α) (k:Nat) (v:α):Nat→α:=fun j=>if j=k then v else u j
theorem updN_self {α:Type} (u:Nat→α) (k:Nat) (v:α):updN u k v k=v:=by simp[updN]
theorem updN_ne {α:Type} (u:Nat→α) {k j:Nat} (v:α) (h:j≠k):updN u k v j=u j:=by simp[updN,h]
def lacks (D:Nat→Bool):Nat→Nat
 |0=>0
 |m+1=>lacks D m+cond (D m) 0 1
theorem lacks_updN {D:Nat→Bool} {k:Nat} (hk:D k=false):∀m,(m≤k→lacks (updN D k true) m=lacks D m)∧(k<m→lacks D m=lacks (updN D k true) m+1)
 |0=>⟨fun _=>rfl,fun h=>by omega⟩
 |m+1=>by
  obtain ⟨h1,h2⟩:=lacks_updN hk m;refine ⟨fun h=>?_,fun h=>?_⟩
  ·unfold lacks;rw[h1 (by omega),updN_ne _ _ (by omega)]
  unfold lacks;by_cases e:m=k
  ·subst e;rw[h1 (Nat.le_refl _),updN_self,hk];rfl
  rw[h2 (by omega),updN_ne _ _ e];omega
theorem lacks_none {D:Nat→Bool}:∀m,lacks D m=0→∀k,k<m→D k=true
 |0,_,k,hk=>by omega
 |m+1,h,k,hk=>by
  unfold lacks at h;by_cases e:k=m
  ·subst e;cases hd:D k with
   |true=>rfl
   |false=>rw[hd] at h;simp at h
  exact lacks_none m (by omega) k (by omega)
theorem lacks_some {D:Nat→Bool}:∀m,lacks D m≠0→∃k,k<m∧D k=false∧∀j,j<k→D j=true
 |0,h=>absurd rfl h
 |m+1,h=>by
  by_cases e:lacks D m=0
  ·refine ⟨m,Nat.lt_succ_self m,?_,lacks_none m e⟩;unfold lacks at h;cases hd:D m with
   |true=>rw[hd] at h;simp[e] at h
   |false=>rfl
  obtain ⟨k,h1,h2⟩:=lacks_some m e;exact ⟨k,by omega,h2⟩
theorem lacks_all {m':Nat}:∀m,m≤m'→lacks (fun k=>decide (m'≤k)) m=m
 |0,_=>rfl
 |m+1,h=>by unfold lacks;rw[lacks_all m (by omega),show decide (m'≤m)=false from decide_eq_false (by omega)];rfl
structure Made (m:Nat) (w w':World) (ob:Nat→(Nat→Nat)→TypeId×Array Value) (D:Nat→Bool) (G:Nat→Nat):Prop where
 below:Below w.heap.size w w'
 blk:∀k,k<m→D k=true→Blk w' (G k) (ob k G).1 (ob k G).2∧w.heap.size≤G k
 ne:∀j k,j<m→k<m→D j=true→D k=true→j≠k→G j≠G k
theorem headW_makes (m:Nat) (ix:Nat→Nat) (V:Nat→Nat→Value) (ob:Nat→(Nat→Nat)→TypeId×Array Value) (dep:Nat→Nat→Bool) (st:(Nat→Value)→Act) (lst:(Nat→Bool)→Array Bool) {f:Nat} {listed:Array Bool} {a:Act} {w:World}
  (hl:lst (fun k=>decide (m≤k))=listed) (ha:st (fun k=>cond (decide (m≤k)) (V k 0) undef)=a)
  (hdep:∀j k,dep j k=true→j<k)
  (hready:∀D:Nat→Bool,(∀k,m≤k→D k=true)→(∃k,k<m∧D k=false)→(∀j k,k<m→dep j k=true→D k=true→D j=true)→Region.ready .any ops (lst D)=((List.range m).filter fun k=> !D k&&(List.range m).all fun j=> !dep j k||D j).map ix)
  (hset:∀D k,k<m→(lst D).setIfInBounds (ix k) true=lst (updN D k true))
  (hob:∀k G G',k<m→(∀j,dep j k=true→G j=G' j)→ob k G=ob k G')
  (hrun:∀k,k<m→∃o,ops[ix k]?=some o∧ix k<n∧(∀u,Region.wanted o (yielded ops (st u).tmps)=true)∧∀(u:Nat→Value) (G:Nat→Nat) (w':World),(∀j,dep j k=true→u j=V j (G j))→S w'→∀K:Act→World→Prop,K (st (updN u k (V k w'.heap.size))) (w'.alloc (.cells (ob k G).2 (ob k G).1))→Oper.wp P o (st u) w' K Q)
  (hS:∀w1 w2,S w1→Below w1.heap.size w1 w2→S w2) (h0:S w)
  (hleaf:∀(G:Nat→Nat) (w':World),Made m w w' ob (fun _=>true) G→S w'→HeadW P ops Q S n L f (lst fun _=>true) (st fun k=>V k (G k)) w'):HeadW P ops Q S n L (f+m) listed a w:=by
 have aux:∀(r:Nat) (D:Nat→Bool) (G:Nat→Nat) (w':World),(∀k,m≤k→D k=true)→lacks D m=r→(∀j k,k<m→dep j k=true→D k=true→D j=true)→Made m w w' ob D G→S w'→
   HeadW P ops Q S n L (f+r) (lst D) (st fun k=>cond (D k) (V k (G k)) undef) w':=by
  intro r
  induction r with
  |zero=>
   intro D G w' hm hr hc hM hSw
   have hD:D=fun _=>true:=by
    funext k
    by_cases h:k<m
    ·exact lacks_none m hr k h
    exact hm k (by omega)
   subst hD;exact hleaf G w' hM hSw
  |succ r ih=>
   intro D G w' hm hr hc hM hSw;obtain ⟨k0,hk0,hd0,hlow⟩:=lacks_some (D:=D) m (by omega)
   refine headW_ready (f:=f+r) _ (hready D hm ⟨k0,hk0,hd0⟩ hc) ?_ ?_
   ·refine List.ne_nil_of_mem (a:=ix k0) (List.mem_map_of_mem (List.mem_filter.2 ⟨List.mem_range.2 hk0,?_⟩));simp only[hd0,Bool.not_false,Bool.true_and,List.all_eq_true,List.mem_range,Bool.or_eq_true,Bool.not_eq_true'];intro j _;cases hd:dep j k0 with
    |false=>exact .inl rfl
    |true=>exact .inr (hlow j (hdep j k0 hd))
   intro i hi;obtain ⟨k,hk,rfl⟩:=List.mem_map.1 hi;obtain ⟨hk1,hk2⟩:=List.mem_filter.1 hk;have hkm:=List.mem_range.1 hk1;simp only[Bool.and_eq_true,Bool.not_eq_true',List.all_eq_true,List.mem_range,Bool.or_eq_true] at hk2;obtain ⟨hDk,hall⟩:=hk2;clear hi hk
   have hdk:∀j,dep j k=true→D j=true:=fun j hj=>by
    have h1:=hdep j k hj;rcases hall j (by omega) with h|h
    ·rw[hj] at h;cases h
    exact h
   obtain ⟨o,ho,hn,hw,hgo⟩:=hrun k hkm;refine ⟨o,ho,hn,hw _,fun K hK=>hgo _ G w' (fun j hj=>by simp only[hdk j hj,cond_true]) hSw K ?_⟩
   have hb:Below w'.heap.size w' (w'.alloc (.cells (ob k G).2 (ob k G).1)):=(Below.refl _ _).alloc (Nat.le_refl _) _;have hS':=hS _ _ hSw hb;refine hK _ _ hS' (fun _=>?_)
   have hGk:∀j,j<m→(j=k∨D j=true)→ob j G=ob j (updN G k w'.heap.size):=fun j hj hjd=>hob j _ _ hj fun i hi=>by
    refine (updN_ne G _ fun e=>?_).symm;subst e;rcases hjd with rfl|h
    ·have:=hdep j j hi;omega
    rw[hc i j hj hi h] at hDk;cases hDk
   have e1:updN (fun j=>cond (D j) (V j (G j)) undef) k (V k w'.heap.size)=fun j=>cond (updN D k true j) (V j (updN G k w'.heap.size j)) undef:=by
    funext j
    by_cases e:j=k
    ·subst e;rw[updN_self,updN_self,updN_self];rfl
    rw[updN_ne _ _ e,updN_ne _ _ e,updN_ne _ _ e]
   rw[e1,hset D k hkm];refine ih (updN D k true) (updN G k w'.heap.size) _ (fun j hj=>?_) (by have:=(lacks_updN hDk m).2 hkm;omega) (fun i j hj hij h=>?_) ⟨hM.below.trans (hb.mono hM.below.size),fun j hj h=>?_,fun i j hi hj h1 h2 hne=>?_⟩ hS'
   ·rw[updN_ne _ _ (by omega)];exact hm j hj
   ·by_cases e:i=k
    ·subst e;exact updN_self _ _ _
    rw[updN_ne _ _ e];by_cases e2:j=k
    ·subst e2;exact hdk i hij
    rw[updN_ne _ _ e2] at h;exact hc i j hj hij h
   ·by_cases e:j=k
    ·subst e;rw[←hGk j hj (.inl rfl),updN_self];exact ⟨Blk.new w' _ _,hM.below.size⟩
    rw[updN_ne _ _ e] at h;rw[←hGk j hj (.inr h),updN_ne _ _ e];exact ⟨(hM.blk j hj h).1.alloc _,(hM.blk j hj h).2⟩
   have lt:∀i,i<m→updN D k true i=true→i≠k→G i<w'.heap.size:=fun i hi h e=>by
    rw[updN_ne _ _ e] at h;exact (hM.blk i hi h).1.lt
   by_cases e:i=k
   ·subst e;rw[updN_self,updN_ne _ _ (Ne.symm hne)];have:=lt j hj h2 (Ne.symm hne);omega
   by_cases e2:j=k
   ·subst e2;rw[updN_self,updN_ne _ _ hne];have:=lt i hi h1 e;omega
   rw[updN_ne _ _ e,updN_ne _ _ e2];rw[updN_ne _ _ e] at h1;rw[updN_ne _ _ e2] at h2;exact hM.ne i j hi hj h1 h2 hne
 rw[←hl, ←ha]
 exact aux m (fun k=>decide (m≤k)) (fun _=>0) w (fun k hk=>decide_eq_true hk) (lacks_all m (Nat.le_refl _)) (fun j k hk _ h=>by simp at h;omega) ⟨Below.refl _ _,fun k hk h=>by simp at h;omega,fun j k hj hk h _ _=>by simp at h;omega⟩ h0
def four (b0 b1 b2 b3:Bool):Nat→Bool
 |0=>b0
 |1=>b1
 |2=>b2
 |3=>b3
 |_=>true
theorem four_of {D:Nat→Bool} (h:∀k,4≤k→D k=true):∃b0 b1 b2 b3,D=four b0 b1 b2 b3:=⟨D 0,D 1,D 2,D 3,funext fun k=>by
 rcases k with _|_|_|_|k
 ·rfl
 ·rfl
 ·rfl
 ·rfl
 exact h _ (by omega)⟩
theorem four_lt {k:Nat} (h:k<4):k=0∨k=1∨k=2∨k=3:=by omega
theorem four_all: ¬ ∃k,k<4∧four true true true true k=false:=by
 rintro ⟨k,hk,hd⟩;rcases four_lt hk with rfl|rfl|rfl|rfl<;>cases hd
theorem headW_makes4 (ix:Nat→Nat) (dst:Nat→Option Tmp) (V:Nat→Nat→Value) (ob:Nat→TypeId×Array Value) (lst:(Nat→Bool)→Array Bool) {f:Nat} {listed:Array Bool} {a:Act} {w:World}
  (hl:lst (fun k=>decide (4≤k))=listed) (ha:(((a.put (dst 0) undef).put (dst 1) undef).put (dst 2) undef).put (dst 3) undef=a)
  (hready:∀b0 b1 b2 b3,(b0&&b1&&b2&&b3)=false→Region.ready .any ops (lst (four b0 b1 b2 b3))=((List.range 4).filter fun k=> !four b0 b1 b2 b3 k).map ix)
  (hset:∀D k,k<4→(lst D).setIfInBounds (ix k) true=lst (updN D k true))
  (hrun:∀k,k<4→∃o,ops[ix k]?=some o∧ix k<n∧(∀u:Nat→Value,Region.wanted o (yielded ops ((((a.put (dst 0) (u 0)).put (dst 1) (u 1)).put (dst 2) (u 2)).put (dst 3) (u 3)).tmps)=true)∧
   ∀(u:Nat→Value) (w':World),S w'→∀K:Act→World→Prop,(∀v,v=V k w'.heap.size→K ((((a.put (dst 0) (updN u k v 0)).put (dst 1) (updN u k v 1)).put (dst 2) (updN u k v 2)).put (dst 3) (updN u k v 3)) (w'.alloc (.cells (ob k).2 (ob k).1)))→Oper.wp P o ((((a.put (dst 0) (u 0)).put (dst 1) (u 1)).put (dst 2) (u 2)).put (dst 3) (u 3)) w' K Q)
  (hS:∀w1 w2,S w1→Below w1.heap.size w1 w2→S w2) (h0:S w)
  (hleaf:∀(G:Nat→Nat) (w':World),Made 4 w w' (fun k _=>ob k) (fun _=>true) G→S w'→HeadW P ops Q S n L f (lst fun _=>true) ((((a.put (dst 0) (V 0 (G 0))).put (dst 1) (V 1 (G 1))).put (dst 2) (V 2 (G 2))).put (dst 3) (V 3 (G 3))) w'):HeadW P ops Q S n L (f+4) listed a w:=by
 refine headW_makes 4 ix V (fun k _=>ob k) (fun _ _=>false) (fun u=>(((a.put (dst 0) (u 0)).put (dst 1) (u 1)).put (dst 2) (u 2)).put (dst 3) (u 3)) lst hl ha (fun j k h=>by cases h) ?_ hset (fun _ _ _ _ _=>rfl) ?_ hS h0 hleaf
 ·intro D hD hne _;obtain ⟨b0,b1,b2,b3,rfl⟩:=four_of hD
  have e:(b0&&b1&&b2&&b3)=false:=by
   cases b0<;>cases b1<;>cases b2<;>cases b3<;>first|rfl|exact absurd hne four_all
  have e4:((List.range 4).all fun j=> !false||four b0 b1 b2 b3 j)=true:=rfl;simp only[e4,Bool.and_true];exact hready b0 b1 b2 b3 e
 ·intro k hk;obtain ⟨o,h1,h2,h3,h4⟩:=hrun k hk;exact ⟨o,h1,h2,h3,fun u G w' _ hS' K hK=>h4 u w' hS' K fun v hv=>by subst hv;exact hK⟩
def pick4 {α:Type} (x0 x1 x2 x3:α):Nat→α
 |0=>x0
 |1=>x1
 |2=>x2
 |_=>x3
abbrev put4 (a:Act) (d0 d1 d2 d3:Option Tmp) (u0 u1 u2 u3:Value):Act:=(((a.put d0 u0).put d1 u1).put d2 u2).put d3 u3
theorem headW_mk4 (i0 i1 i2 i3:Nat) (d0 d1 d2 d3:Option Tmp) (V:Nat→Value) (t0 t1 t2 t3:TypeId) (c0 c1 c2 c3:Array Value) (lst:Bool→Bool→Bool→Bool→Array Bool) {f:Nat} {listed:Array Bool} {a:Act} {w:World} {o0 o1 o2 o3:Oper}
  (hl:lst false false false false=listed) (ha:put4 a d0 d1 d2 d3 undef undef undef undef=a)
  (hready:∀b0 b1 b2 b3,(b0&&b1&&b2&&b3)=false→Region.ready .any ops (lst b0 b1 b2 b3)=cond b0 [] [i0]++(cond b1 [] [i1]++(cond b2 [] [i2]++cond b3 [] [i3])))
  (hset:∀b0 b1 b2 b3,(lst b0 b1 b2 b3).setIfInBounds i0 true=lst true b1 b2 b3∧(lst b0 b1 b2 b3).setIfInBounds i1 true=lst b0 true b2 b3∧(lst b0 b1 b2 b3).setIfInBounds i2 true=lst b0 b1 true b3∧(lst b0 b1 b2 b3).setIfInBounds i3 true=lst b0 b1 b2 true)
  (ho:ops[i0]?=some o0∧ops[i1]?=some o1∧ops[i2]?=some o2∧ops[i3]?=some o3) (hn:i0<n∧i1<n∧i2<n∧i3<n)
  (hw:∀u0 u1 u2 u3,Region.wanted o0 (yielded ops (put4 a d0 d1 d2 d3 u0 u1 u2 u3).tmps)=true∧Region.wanted o1 (yielded ops (put4 a d0 d1 d2 d3 u0 u1 u2 u3).tmps)=true∧Region.wanted o2 (yielded ops (put4 a d0 d1 d2 d3 u0 u1 u2 u3).tmps)=true∧Region.wanted o3 (yielded ops (put4 a d0 d1 d2 d3 u0 u1 u2 u3).tmps)=true)
  (h0:∀(u0 u1 u2 u3:Value) (w':World),S w'→∀K:Act→World→Prop,K (put4 a d0 d1 d2 d3 (V w'.heap.size) u1 u2 u3) (w'.alloc (.cells c0 t0))→Oper.wp P o0 (put4 a d0 d1 d2 d3 u0 u1 u2 u3) w' K Q)
  (h1:∀(u0 u1 u2 u3:Value) (w':World),S w'→∀K:Act→World→Prop,K (put4 a d0 d1 d2 d3 u0 (V w'.heap.size) u2 u3) (w'.alloc (.cells c1 t1))→Oper.wp P o1 (put4 a d0 d1 d2 d3 u0 u1 u2 u3) w' K Q)
  (h2:∀(u0 u1 u2 u3:Value) (w':World),S w'→∀K:Act→World→Prop,K (put4 a d0 d1 d2 d3 u0 u1 (V w'.heap.size) u3) (w'.alloc (.cells c2 t2))→Oper.wp P o2 (put4 a d0 d1 d2 d3 u0 u1 u2 u3) w' K Q)
  (h3:∀(u0 u1 u2 u3:Value) (w':World),S w'→∀K:Act→World→Prop,K (put4 a d0 d1 d2 d3 u0 u1 u2 (V w'.heap.size)) (w'.alloc (.cells c3 t3))→Oper.wp P o3 (put4 a d0 d1 d2 d3 u0 u1 u2 u3) w' K Q)
  (hS:∀w1 w2,S w1→Below w1.heap.size w1 w2→S w2) (h00:S w)
  (hleaf:∀(g0 g1 g2 g3:Nat) (w':World),Below w.heap.size w w'→(Blk w' g0 t0 c0∧Blk w' g1 t1 c1∧Blk w' g2 t2 c2∧Blk w' g3 t3 c3)→(w.heap.size≤g0∧w.heap.size≤g1∧w.heap.size≤g2∧w.heap.size≤g3)→(g0≠g1∧g0≠g2∧g0≠g3∧g1≠g2∧g1≠g3∧g2≠g3)→S w'→HeadW P ops Q S n L f (lst true true true true) (put4 a d0 d1 d2 d3 (V g0) (V g1) (V g2) (V g3)) w'):HeadW P ops Q S n L (f+4) listed a w:=by
 refine headW_makes4 (pick4 i0 i1 i2 i3) (pick4 d0 d1 d2 d3) (fun _=>V) (pick4 (t0,c0) (t1,c1) (t2,c2) (t3,c3)) (fun D=>lst (D 0) (D 1) (D 2) (D 3)) hl ha ?_ ?_ ?_ hS h00 ?_
 ·intro b0 b1 b2 b3 e;refine (hready b0 b1 b2 b3 e).trans ?_;cases b0<;>cases b1<;>cases b2<;>cases b3<;>rfl
 ·intro D k hk;rcases four_lt hk with rfl|rfl|rfl|rfl
  ·exact (hset _ _ _ _).1
  ·exact (hset _ _ _ _).2.1
  ·exact (hset _ _ _ _).2.2.1
  exact (hset _ _ _ _).2.2.2
 ·intro k hk;rcases four_lt hk with rfl|rfl|rfl|rfl
  ·exact ⟨o0,ho.1,hn.1,fun u=>(hw _ _ _ _).1,fun u w' hs K hK=>h0 _ _ _ _ w' hs K (hK _ rfl)⟩
  ·exact ⟨o1,ho.2.1,hn.2.1,fun u=>(hw _ _ _ _).2.1,fun u w' hs K hK=>h1 _ _ _ _ w' hs K (hK _ rfl)⟩
  ·exact ⟨o2,ho.2.2.1,hn.2.2.1,fun u=>(hw _ _ _ _).2.2.1,fun u w' hs K hK=>h2 _ _ _ _ w' hs K (hK _ rfl)⟩
  exact ⟨o3,ho.2.2.2,hn.2.2.2,fun u=>(hw _ _ _ _).2.2.2,fun u w' hs K hK=>h3 _ _ _ _ w' hs K (hK _ rfl)⟩
 ·intro G w' hM hs;have hb:=hM.blk;have hne:=hM.ne
  exact hleaf _ _ _ _ w' hM.below ⟨(hb 0 (by decide) rfl).1,(hb 1 (by decide) rfl).1,(hb 2 (by decide) rfl).1,(hb 3 (by decide) rfl).1⟩ ⟨(hb 0 (by decide) rfl).2,(hb 1 (by decide) rfl).2,(hb 2 (by decide) rfl).2,(hb 3 (by decide) rfl).2⟩
   ⟨hne 0 1 (by decide) (by decide) rfl rfl (by decide),hne 0 2 (by decide) (by decide) rfl rfl (by decide),hne 0 3 (by decide) (by decide) rfl rfl (by decide),hne 1 2 (by decide) (by decide) rfl rfl (by decide),hne 1 3 (by decide) (by decide) rfl rfl (by decide),hne 2 3 (by decide) (by decide) rfl rfl (by decide)⟩ hs
theorem op_storeB {w:World} {o:Oper} {a:Act} {K:Act→World→Prop} (ty:TypeId) (x y:Operand) (ho:o.op= .store ty x y)
  {g:Nat} {t:TypeId} {os:Array Value} (cs:List Value) (hx:a.eval x= .pointer (some ⟨g,0,none⟩)) (hy:a.eval y= .agg cs.toArray) (hb:Blk w g t os)
  (hi:(P.info? ty).map (·.size)=some cs.length) (hos:os.size=cs.length) (h1:∀v∈cs,v.oneCell'=true)
  (h:∀w',Blk w' g t cs.toArray→Only (fun k=>k=g) w w'→w'.heap.size=w.heap.size→K (a.put o.dst undef) w'):Oper.wp P o a w K Q:=by
 have hb':Blk w g t ([]++os.toList++[]).toArray:=by simpa using hb
 have hs:=setCells_blk g t cs 0 w [] os.toList [] hb' rfl (by simpa using hos)
 simp only[List.nil_append,List.append_nil] at hs
 refine wp_store_mid ty x y ho g 0 cs.toArray hx hy (there_blk hb (by simp[hos])) (by simpa using hi) (all_oneCell_toArray h1) ?_
 exact h _ hs.1 hs.2.1 hs.2.2
end
end Go.Proofs.Ytcmpmhlcfalbhaa
