import Derived.Test.YtcmpmhlcfalbhaaV36
import Derived.Test.YtcmpmhlcfalbhaaV31
import Derived.Test.YtcmpmhlcfalbhaaV08
namespace Go.Proofs.Ytcmpmhlcfalbhaa
section
open Go.RowKit
def OutM (P:Prg) (w:World) (B:Nat) (v1 v2:Value):Prop:=
 (∃x,BadAt P x∧v1=zFacts∧v2=faultV (some x))∨
 ∃hs tops lps live ce co HR LR AH cH AT cT AL cL gL,FactsOk P hs tops lps live ce co∧RunM w B hs lps tops HR LR AH cH AT cT AL cL∧OwnL w B (some ⟨gL,0,none⟩) live.length live.length live∧
  v1= .agg #[.slice AH hs.length cH,.slice AT tops.length cT,.slice AL lps.length cL,.slice (some ⟨gL,0,none⟩) live.length live.length,.int .i64 ce,.int .i64 co]∧v2=faultV none
theorem OutM.far {P:Prg} {w w':World} {B:Nat} {v1 v2:Value} (h:OutM P w B v1 v2) {S:Nat→Prop} (ho:Only S w w') (hS:∀b,B≤b→b<w.heap.size→¬ S b):OutM P w' B v1 v2:=by
 rcases h with h|⟨hs,tops,lps,live,ce,co,HR,LR,AH,cH,AT,cT,AL,cL,gL,hok,hM,hL,e1,e2⟩
 ·exact .inl h
 have far:∀{e:TypeId} {s n c:Nat} {A:Option Addr} {vs:List Value},Own w B e s A n c vs→∀b,A.map (·.block)=some b→¬ S b:=fun h b e=>hS b (Own.row h b e).1 (Own.row h b e).2;exact .inr ⟨hs,tops,lps,live,ce,co,HR,LR,AH,cH,AT,cT,AL,cL,gL,hok,hM.keep ho (fun q hq=>far (hM.sh.own q hq)) (fun q hq=>far (hM.sl.own q hq)) (far hM.oh) (far hM.ol) (far hM.ot),Own.only hL ho fun b o e=>far hL b (by rw[e];rfl),e1,e2⟩
theorem OutM.below {P:Prg} {w w':World} {B:Nat} {v1 v2:Value} (h:OutM P w B v1 v2) (hb:Below w.heap.size w w'):OutM P w' B v1 v2:=h.far (S:=fun _=>False) (Only.of_fresh hb) fun _ _ _ h=>h
def OutPost (P:Prg) (w:World) (e:Ending) (w':World):Prop:=
 ∃(A0 A1 A2 A3:Option Addr) (n0 n1 n2 n3 c0 c1 c2 c3:Nat) (ce co e0 e1 e2:Int),e= .returned (.tuple #[.agg #[.slice A0 n0 c0,.slice A1 n1 c1,.slice A2 n2 c2,.slice A3 n3 c3,.int .i64 ce,.int .i64 co],.agg #[.int .i64 e0,.int .i64 e1,.int .i64 e2]])∧
  OutM P w' w.heap.size (.agg #[.slice A0 n0 c0,.slice A1 n1 c1,.slice A2 n2 c2,.slice A3 n3 c3,.int .i64 ce,.int .i64 co]) (.agg #[.int .i64 e0,.int .i64 e1,.int .i64 e2])∧Below w.heap.size w w'
theorem RunPost.out {P:Prg} {w w':World} {e:Ending} (h:RunPost P w e w'):OutPost P w e w':=by
 obtain ⟨hb,⟨⟨er,ff,nn⟩,hx,rfl⟩|⟨hs,tops,lps,live,ce,co,HR,LR,AH,cH,AT,cT,AL,cL,gL,hok,hM,hL,rfl⟩⟩:=h
 ·exact ⟨none,none,none,none,0,0,0,0,0,0,0,0,0,0,er,ff,nn,rfl,.inl ⟨_,hx,rfl,rfl⟩,hb⟩
 exact ⟨AH,AT,AL,some ⟨gL,0,none⟩,hs.length,tops.length,lps.length,live.length,cH,cT,cL,live.length,ce,co,0,0,0,rfl,.inr ⟨hs,tops,lps,live,ce,co,HR,LR,AH,cH,AT,cT,AL,cL,gL,hok,hM,hL,rfl,rfl⟩,hb⟩
theorem rows_hr {w:World} {B c:Nat} {ls:List (List Int)} {R:List (LG×List Value)} {A:Option Addr} (hh:R.map (·.2)=ls.map (·.map iv)) (hs:SoleG w B 3 1 R) (ho:Own w B 29 1 A R.length c (hdrs R)) (h0:0<ls.length):HRows w A ls:=by
 obtain ⟨b,r,hA,-,hb,-,-⟩:=rows_at hh hs ho h0;refine ⟨b,hA,hb,fun f hf=>?_⟩;obtain ⟨b',r',hA',-,-,hc,hO⟩:=rows_at hh hs ho hf;rw[hA] at hA';injection hA' with hA'
 injection hA' with e1
 subst e1;exact ⟨r'.A,r'.c,hc,RV.of_own hO⟩
theorem factV_of {w:World} {B:Nat} {hs lps:List (List Int)} {tops:List Int} {live:List Bool} {ce co:Int} {HR LR:List (LG×List Value)} {AH AT AL:Option Addr} {cH cT cL gL:Nat} (hM:RunM w B hs lps tops HR LR AH cH AT cT AL cL) (hL:OwnL w B (some ⟨gL,0,none⟩) live.length live.length live):
  FactV w (.agg #[.slice AH hs.length cH,.slice AT tops.length cT,.slice AL lps.length cL,.slice (some ⟨gL,0,none⟩) live.length live.length,.int .i64 ce,.int .i64 co]) hs tops lps live ce co:=
 ⟨AH,AT,AL,some ⟨gL,0,none⟩,cH,cT,cL,live.length,rfl,rows_hr hM.hh hM.sh hM.oh,RV.of_own hM.ot,rows_hr hM.hl hM.sl hM.ol,RV.of_own hL⟩
end
section
open Go.RowKit
structure TailG (w0 wr:World) (B base:Nat) (e rowT:TypeId) (sz:Nat) (ps:List LG) (mk tl:Nat→List Value) (K i:Nat) (GA:Nat→Option Addr) (GC:Nat→Nat) (AM:Option Addr) (cM:Nat):Prop where
 row:Own wr B rowT 1 AM i cM ((List.range i).map fun t=> .slice (GA t) (nOf ps t+K) (GC t))
 done:∀t p,t<i→ps[t]?=some p→Own wr base e sz (GA t) (p.n+K) (GC t) (mk t++tl t)∧RV wr p.A (mk t)∧∀b,(GA t).map (·.block)=some b→p.A.map (·.block)=some b∨B≤b
 wait:∀t p,i≤t→ps[t]?=some p→Own wr base e sz p.A p.n p.c (mk t)
 sole:∀t t',t≠t'→t<i→t'<i→∀b,(GA t).map (·.block)=some b→(GA t').map (·.block)≠some b
 only:Only (fun b=>∃p∈ps,p.A.map (·.block)=some b) w0 wr
 size:B≤wr.heap.size
structure MidG (w0 wr:World) (B base:Nat) (e rowT:TypeId) (sz:Nat) (ps:List LG) (mk tl:Nat→List Value) (K i:Nat) (GA:Nat→Option Addr) (GC:Nat→Nat) (AM:Option Addr) (cM:Nat) (p:LG) (m:Nat) (us:List Value) (G:Option Addr) (C:Nat):Prop where
 row:Own wr B rowT 1 AM i cM ((List.range i).map fun t=> .slice (GA t) (nOf ps t+K) (GC t))
 done:∀t p,t<i→ps[t]?=some p→Own wr base e sz (GA t) (p.n+K) (GC t) (mk t++tl t)∧RV wr p.A (mk t)∧∀b,(GA t).map (·.block)=some b→p.A.map (·.block)=some b∨B≤b
 wait:∀t p,i<t→ps[t]?=some p→Own wr base e sz p.A p.n p.c (mk t)
 sole:∀t t',t≠t'→t<i→t'<i→∀b,(GA t).map (·.block)=some b→(GA t').map (·.block)≠some b
 only:Only (fun b=>∃p∈ps,p.A.map (·.block)=some b) w0 wr
 size:B≤wr.heap.size
 cur:Own wr base e sz G (p.n+m) C (mk i++us)
 crv:RV wr p.A (mk i)
 cb:∀b,G.map (·.block)=some b→p.A.map (·.block)=some b∨B≤b
 curs:∀t,t<i→∀b,(GA t).map (·.block)=some b→G.map (·.block)≠some b
section
variable {w0 wr wx w3:World} {B base:Nat} {e rowT:TypeId} {sz:Nat} {ps:List LG} {mk tl:Nat→List Value} {K i:Nat} {GA:Nat→Option Addr} {GC:Nat→Nat} {AM A2:Option Addr} {cM c2:Nat} {p:LG} {m:Nat} {us u:List Value} {G:Option Addr} {C:Nat}
theorem TailG.start (hown:∀t p,ps[t]?=some p→Own w0 base e sz p.A p.n p.c (mk t)) (hB:B=w0.heap.size):TailG w0 w0 B base e rowT sz ps mk tl K 0 (fun _=>none) (fun _=>0) none 0:=
 ⟨Own.nil _ _ _ _,(fun t p h=>absurd h (Nat.not_lt_zero _)),(fun t p _ hp=>hown t p hp),(fun t t' _ h=>absurd h (Nat.not_lt_zero _)),Only.refl _ _,by rw[hB];exact Nat.le_refl _⟩
theorem MidG.start (h:TailG w0 wr B base e rowT sz ps mk tl K i GA GC AM cM) (hp:ps[i]?=some p) (hlt:∀p∈ps,∀b,p.A.map (·.block)=some b→b<B)
  (hsole:∀(i j:Nat) (p r:LG),i≠j→ps[i]?=some p→ps[j]?=some r→∀b,p.A.map (·.block)=some b→r.A.map (·.block)≠some b):MidG w0 wr B base e rowT sz ps mk tl K i GA GC AM cM p 0 [] p.A p.c:=by
 have ho:=h.wait i p (Nat.le_refl _) hp
 refine ⟨h.row,h.done,fun t r ht hr=>h.wait t r (by omega) hr,h.sole,h.only,h.size,by rw[List.append_nil,Nat.add_zero];exact ho,RV.of_own ho,fun b hb=> .inl hb,fun t ht b e1 e2=>?_⟩
 have hil:=(List.getElem?_eq_some_iff.1 hp).1
 have hr:ps[t]?=some ps[t]:=List.getElem?_eq_getElem (by omega)
 rcases (h.done t _ ht hr).2.2 b e1 with e3|e3
 ·exact hsole t i _ _ (by omega) hr hp b e3 e2
 ·have:=hlt p (List.mem_of_getElem? hp) b e2;omega
theorem MidG.step (h:MidG w0 wr B base e rowT sz ps mk tl K i GA GC AM cM p m us G C) (hp:ps[i]?=some p) (hne:rowT≠e) (hlt:∀p∈ps,∀b,p.A.map (·.block)=some b→b<B) (hw0:w0.heap.size≤B)
  (hform:∀p∈ps,∀b,p.A.map (·.block)=some b→p.A=some ⟨b,0,none⟩)
  (hsole:∀(i j:Nat) (p r:LG),i≠j→ps[i]?=some p→ps[j]?=some r→∀b,p.A.map (·.block)=some b→r.A.map (·.block)≠some b)
  (hb:Below wr.heap.size wr wx) (hown:Own w3 base e sz A2 (p.n+m+1) c2 ((mk i++us)++u))
  (hA:(A2=G∧G≠none∧wx.grownBy w3 (G.map (·.block)))∨((∀b o,A2=some ⟨b,o,none⟩→wx.heap.size≤b)∧wx.grownBy w3 none)):
  MidG w0 w3 B base e rowT sz ps mk tl K i GA GC AM cM p (m+1) (us++u) A2 c2:=by
 have hpm:=List.mem_of_getElem? hp
 have hil:i<ps.length:=(List.getElem?_eq_some_iff.1 hp).1
 have hzx:=hb.size
 have hO3:Only (fun b=>G.map (·.block)=some b∧A2=G) wx w3:=by
  rcases hA with ⟨h1,-,h3⟩|⟨-,h3⟩
  ·exact Only.of_grown h3 fun k hk=>⟨hk,h1⟩
  exact Only.of_grown h3 fun k hk=>by cases hk
 have hz3:=hO3.size
 have hsz:=h.size
 have hoth:∀t r,t≠i→ps[t]?=some r→∀b,r.A.map (·.block)=some b→G.map (·.block)≠some b:=fun t r ht hr b e1 e2=>by
  rcases h.cb b e2 with e3|e3
  ·exact hsole t i r p ht hr hp b e1 e3
  have:=hlt r (List.mem_of_getElem? hr) b e1;omega
 have hnew:Own w3 base e sz A2 (p.n+(m+1)) c2 (mk i++(us++u)):=by
  rw[←List.append_assoc, ←Nat.add_assoc];exact hown
 have hA2b:∀b,A2.map (·.block)=some b→(A2=G∧G.map (·.block)=some b)∨wx.heap.size≤b:=fun b e1=>by
  rcases hA with ⟨h1,-,-⟩|⟨h1,-⟩
  ·exact .inl ⟨h1,by rw[←h1];exact e1⟩
  have hf:=(ownG_form hown b e1).1;exact .inr (h1 b 0 hf)
 refine ⟨?_,fun t r ht hr=>?_,fun t r ht hr=>?_,h.sole,?_,by omega,hnew,?_,fun b e1=>?_,fun t ht b e1 e2=>?_⟩
 ·exact Own.only (Own.below h.row hb (Nat.le_refl _)) hO3 fun b o e1 e2=>ownG_ne h.row h.cur hne b (by rw[e1];rfl) e2.1
 ·obtain ⟨h1,h2,h3⟩:=h.done t r ht hr;exact ⟨Own.only (Own.below h1 hb (Nat.le_refl _)) hO3 fun b o e1 e2=>h.curs t ht b (by rw[e1];rfl) e2.1,(h2.below hb).only hO3 fun _ b o e1 e2=>hoth t r (by omega) hr b (by rw[e1];rfl) e2.1,h3⟩
 ·exact Own.only (Own.below (h.wait t r ht hr) hb (Nat.le_refl _)) hO3 fun b o e1 e2=>hoth t r (by omega) hr b (by rw[e1];rfl) e2.1
 ·refine (h.only.trans (Only.of_fresh hb)).more hO3 fun b hbl e1=>?_;rcases h.cb b e1.1 with h2|h2
  ·exact ⟨p,hpm,h2⟩
  omega
 ·by_cases hin:A2=G∧∃b,p.A.map (·.block)=some b∧G.map (·.block)=some b
  ·obtain ⟨h1,b,h2,h3⟩:=hin;have hf1:=hform p hpm b h2;have hf2:=(ownG_form h.cur b h3).1;have h4:=RV.of_own hnew;rw[h1,hf2] at h4;have h5:=h4.cut 0 (mk i).length;rw[List.drop_zero,List.take_append_of_le_length (Nat.le_refl _),List.take_length] at h5;rw[hf1];exact h5
  exact (h.crv.below hb).only hO3 fun _ b o e1 e2=>hin ⟨e2.2,b,by rw[e1];rfl,e2.1⟩
 ·rcases hA2b b e1 with ⟨-,h2⟩|h2
  ·exact h.cb b h2
  exact .inr (by omega)
 ·rcases hA2b b e2 with ⟨-,h2⟩|h2
  ·exact h.curs t ht b e1 h2
  have hr:ps[t]?=some ps[t]:=List.getElem?_eq_getElem (by omega)
  have:=(Own.row (h.done t _ ht hr).1 b e1).2;omega
theorem MidG.last (h:MidG w0 wr B base e rowT sz ps mk tl K i GA GC AM cM p K (tl i) G C) (hp:ps[i]?=some p) (hne:rowT≠e) (hlt:∀p∈ps,∀b,p.A.map (·.block)=some b→b<B) (hw0:w0.heap.size≤B)
  (hb:Below wr.heap.size wr wx) (hown:Own w3 B rowT 1 A2 (i+1) c2 (((List.range i).map fun t=> .slice (GA t) (nOf ps t+K) (GC t))++[.slice G (p.n+K) C]))
  (hg:wx.grownBy w3 (AM.map (·.block))):
  TailG w0 w3 B base e rowT sz ps mk tl K (i+1) (fun t=>if t=i then G else GA t) (fun t=>if t=i then C else GC t) A2 c2:=by
 have hil:i<ps.length:=(List.getElem?_eq_some_iff.1 hp).1
 have hzx:=hb.size
 have hO3:Only (fun b=>AM.map (·.block)=some b) wx w3:=Only.of_grown hg fun k hk=>hk
 have hz3:=hO3.size
 have hAM:∀b,AM.map (·.block)=some b→B≤b:=fun b e1=>(Own.row h.row b e1).1
 have hrv:∀(r:LG) (xs:List Value),r∈ps→RV wr r.A xs→RV w3 r.A xs:=fun r xs hr h1=>(h1.below hb).only hO3 fun _ b o e1 e2=>by
  have h3:=hlt r hr b (by rw[e1];rfl)
  have h4:=hAM b e2;omega
 have hcur:Own w3 base e sz G (p.n+K) C (mk i++tl i):=Own.only (Own.below h.cur hb (Nat.le_refl _)) hO3 fun b o e1 e2=>ownG_ne h.row h.cur hne b e2 (by rw[e1];rfl)
 refine ⟨?_,fun t r ht hr=>?_,fun t r ht hr=>?_,fun t t' htt ht ht' b e1 e2=>?_,?_,by have:=h.size;omega⟩
 ·have e1:((List.range (i+1)).map fun t=>Value.slice (if t=i then G else GA t) (nOf ps t+K) (if t=i then C else GC t))=((List.range i).map fun t=> .slice (GA t) (nOf ps t+K) (GC t))++[.slice G (p.n+K) C]:=by
   rw[List.range_succ,List.map_append];congr 1
   ·exact List.map_congr_left fun t ht=>by
     have:t≠i:=by have:=List.mem_range.1 ht;omega
     rw[if_neg this,if_neg this]
   simp[nOf_eq hp]
  rw[e1];exact hown
 ·by_cases hti:t=i
  ·subst hti;rw[hp] at hr;injection hr with hr
   subst hr;rw[if_pos rfl,if_pos rfl];exact ⟨hcur,hrv p _ (List.mem_of_getElem? hp) h.crv,h.cb⟩
  rw[if_neg hti,if_neg hti];obtain ⟨h1,h2,h3⟩:=h.done t r (by omega) hr
  exact ⟨Own.only (Own.below h1 hb (Nat.le_refl _)) hO3 fun b o e1 e2=>ownG_ne h.row h1 hne b e2 (by rw[e1];rfl),hrv r _ (List.mem_of_getElem? hr) h2,h3⟩
 ·exact Own.only (Own.below (h.wait t r (by omega) hr) hb (Nat.le_refl _)) hO3 fun b o e1 e2=>by
   have h3:=hlt r (List.mem_of_getElem? hr) b (by rw[e1];rfl)
   have h4:=hAM b e2;omega
 ·by_cases h1:t=i
  ·rw[if_pos h1] at e1;rw[if_neg (by omega)] at e2
   exact h.curs t' (by omega) b e2 e1
  rw[if_neg h1] at e1;by_cases h3:t'=i
  ·rw[if_pos h3] at e2;exact h.curs t (by omega) b e1 e2
  rw[if_neg h3] at e2;exact h.sole t t' htt (by omega) (by omega) b e1 e2
 ·refine (h.only.trans (Only.of_fresh hb)).more hO3 fun b hbl e1=>?_;have:=hAM b e1;omega
theorem TailG.below (h:TailG w0 wr B base e rowT sz ps mk tl K i GA GC AM cM) (hb:Below wr.heap.size wr wx):TailG w0 wx B base e rowT sz ps mk tl K i GA GC AM cM:=
 ⟨Own.below h.row hb (Nat.le_refl _),fun t p ht hp=>by
  obtain ⟨h1,h2,h3⟩:=h.done t p ht hp;exact ⟨Own.below h1 hb (Nat.le_refl _),h2.below hb,h3⟩,fun t p ht hp=>Own.below (h.wait t p ht hp) hb (Nat.le_refl _),h.sole,h.only.trans (Only.of_fresh hb),by have:=hb.size;have:=h.size;omega⟩
end
theorem rowT_at {w:World} {rowT:TypeId} {B K n:Nat} {ps:List LG} {GA:Nat→Option Addr} {GC:Nat→Nat} {AM:Option Addr} {cM i:Nat} {p:LG} (h:Own w B rowT 1 AM n cM ((List.range n).map fun t=> .slice (GA t) (nOf ps t+K) (GC t)))
  (hp:ps[i]?=some p) (hi:i<n):∃gM,AM=some ⟨gM,0,none⟩∧w.cell? ⟨gM,i,none⟩=some (.slice (GA i) (p.n+K) (GC i))∧gM<w.heap.size:=by
 obtain ⟨gM,rfl,-,-⟩:=ownG_some h (by omega)
 obtain ⟨h1,-,h3⟩:=ownG_at h i (by simpa using hi)
 rw[List.getElem_map,List.getElem_range,nOf_eq hp] at h1
 exact ⟨gM,rfl,h1,h3⟩
structure ListsH (w:World) (base:Nat) (e:TypeId) (sz:Nat) (L:Option Addr) (ps:List LG) (vs:Nat→List Value):Prop where
 rv:RV w L (ps.map LG.val)
 own:∀t p,ps[t]?=some p→Own w base e sz p.A p.n p.c (vs t)
 sole:∀(i j:Nat) (p r:LG),i≠j→ps[i]?=some p→ps[j]?=some r→∀b,p.A.map (·.block)=some b→r.A.map (·.block)≠some b
 far:∀p∈ps,∀b o,L=some ⟨b,o,none⟩→p.A.map (·.block)≠some b
 many:ps.length≤1000
 small:∀p∈ps,p.n≤1000000
section
variable {w:World} {base:Nat} {e:TypeId} {sz:Nat} {L:Option Addr} {ps:List LG} {vs:Nat→List Value}
theorem ListsH.row (h:ListsH w base e sz L ps vs):∀p∈ps,∀b,p.A.map (·.block)=some b→p.A=some ⟨b,0,none⟩∧base≤b∧b<w.heap.size:=fun p hp b e=>by
 obtain ⟨t,ht⟩:=List.mem_iff_getElem?.1 hp;exact ownG_form (h.own t p ht) b e
theorem ListsH.rv2 {w':World} (h:ListsH w base e sz L ps vs) (hO:Only (fun b=>∃p∈ps,p.A.map (·.block)=some b) w w'):RV w' L (ps.map LG.val):=(h.rv).only hO fun _ b o e ⟨p,hp,e2⟩=>h.far p hp b o e e2
theorem ListsH.full {mk:Nat→List Value} (h:ListsH w base e sz L ps vs):FullG w base e sz ps mk vs 0 0:=⟨fun t p hp=>by
 rw[if_neg (Nat.not_lt_zero _)];split
 ·exact h.own t p hp
 exact h.own t p hp⟩
end
end
end Go.Proofs.Ytcmpmhlcfalbhaa
