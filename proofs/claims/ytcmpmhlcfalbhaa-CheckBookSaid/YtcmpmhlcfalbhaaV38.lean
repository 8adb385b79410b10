import Derived.Test.YtcmpmhlcfalbhaaV37
import Derived.Test.YtcmpmhlcfalbhaaV35
import Derived.Test.YtcmpmhlcfalbhaaV31
import Derived.Test.YtcmpmhlcfalbhaaV13
namespace Go.Proofs.Ytcmpmhlcfalbhaa
section
open Go.RowKit
structure TurnM (w:World) (B z:Nat) (hs lps:List (List Int)) (tops:List Int) (live:List Bool) (HR LR:List (LG×List Value)) (AH:Option Addr) (cH:Nat) (AT:Option Addr) (cT:Nat) (AL:Option Addr) (cL gL:Nat):Prop where
 m:RunM w B hs lps tops HR LR AH cH AT cT AL cL
 l:OwnL w B (some ⟨gL,0,none⟩) live.length live.length live
 zh:∀q∈HR,∀b,q.1.A.map (·.block)=some b→b<z
 zl:∀q∈LR,∀b,q.1.A.map (·.block)=some b→b<z
 zah:∀b,AH.map (·.block)=some b→b<z
 zal:∀b,AL.map (·.block)=some b→b<z
 zat:∀b,AT.map (·.block)=some b→b<z
 zg:gL<z
section
variable {w w':World} {B z:Nat} {hs lps:List (List Int)} {tops:List Int} {live:List Bool} {HR LR:List (LG×List Value)} {AH AT AL:Option Addr} {cH cT cL gL:Nat}
theorem TurnM.of_run (hM:RunM w B hs lps tops HR LR AH cH AT cT AL cL) (hL:OwnL w B (some ⟨gL,0,none⟩) live.length live.length live):TurnM w B w.heap.size hs lps tops live HR LR AH cH AT cT AL cL gL:=
 ⟨hM,hL,fun q hq b e=>(Own.row (hM.sh.own q hq) b e).2,fun q hq b e=>(Own.row (hM.sl.own q hq) b e).2,fun b e=>(Own.row hM.oh b e).2,fun b e=>(Own.row hM.ol b e).2,fun b e=>(Own.row hM.ot b e).2,(Own.row hL gL rfl).2⟩
theorem TurnM.keep (h:TurnM w B z hs lps tops live HR LR AH cH AT cT AL cL gL) {S:Nat→Prop} (ho:Only S w w') (hS:∀b,B≤b→b<z→¬ S b):TurnM w' B z hs lps tops live HR LR AH cH AT cT AL cL gL:=
 ⟨h.m.keep ho (fun q hq b e=>hS b (Own.row (h.m.sh.own q hq) b e).1 (h.zh q hq b e)) (fun q hq b e=>hS b (Own.row (h.m.sl.own q hq) b e).1 (h.zl q hq b e)) (fun b e=>hS b (Own.row h.m.oh b e).1 (h.zah b e)) (fun b e=>hS b (Own.row h.m.ol b e).1 (h.zal b e)) (fun b e=>hS b (Own.row h.m.ot b e).1 (h.zat b e)),
  Own.only h.l ho (fun b o e=>by
   have e1:gL=b:=by injection e with e;injection e with e
   subst e1;exact hS gL (Own.row h.l gL rfl).1 h.zg),h.zh,h.zl,h.zah,h.zal,h.zat,h.zg⟩
theorem TurnM.below (h:TurnM w B z hs lps tops live HR LR AH cH AT cT AL cL gL) (hb:Below w.heap.size w w'):TurnM w' B z hs lps tops live HR LR AH cH AT cT AL cL gL:=h.keep (S:=fun _=>False) (Only.of_fresh hb) fun _ _ _ h=>h
theorem TurnM.factV (h:TurnM w B z hs lps tops live HR LR AH cH AT cT AL cL gL) (ce co:Int):
 FactV w (.agg #[.slice AH hs.length cH,.slice AT tops.length cT,.slice AL lps.length cL,.slice (some ⟨gL,0,none⟩) live.length live.length,.int .i64 ce,.int .i64 co]) hs tops lps live ce co:=factV_of h.m h.l
end
theorem FactsOk.small {P:Prg} {hs:List (List Int)} {tops:List Int} {lps:List (List Int)} {live:List Bool} {ce co:Int} (hok:FactsOk P hs tops lps live ce co):
  P.fs.length≤64∧hs.length≤64∧tops.length≤64∧lps.length≤64∧live.length≤64∧(∀j,(hs.getD j []).length≤4096)∧∀j,(lps.getD j []).length≤4096:=by
 have hn:P.fs.length≤64:=by
  have h:=hok.lead.chk;unfold checkL at h;split at h
  ·omega
  rename_i hb
  have:=badH_not (by simpa using hb)
  omega
 have h1:=hok.lh
 have h2:=hok.lt
 have h3:=hok.ll
 have h4:=hok.lv
 have far:∀(l:List (List Int)),(∀f,f<l.length→(l.getD f []).length≤4096)→∀j,(l.getD j []).length≤4096:=fun l hl j=>by
  by_cases e:j<l.length
  ·exact hl j e
  rw[List.getD_eq_getElem?_getD,List.getElem?_eq_none (by omega)];simp
 refine ⟨hn,by omega,by omega,by omega,by omega,far hs fun f hf=>?_,far lps fun f hf=>?_⟩
 ·rw[(hok.fin f (by omega)).len];exact good_len hok.good f
 ·rw[hok.loops f (by omega)];exact Nat.le_trans loopsL_len (good_len hok.good f)
theorem FactsOk.same {P:Prg} {hs:List (List Int)} {tops:List Int} {lps:List (List Int)} {live:List Bool} {ce co:Int} (hok:FactsOk P hs tops lps live ce co) {v1 v2:Value} {w:World} (h1:FactV w v1 hs tops lps live ce co) (h2:FactV w v2 hs tops lps live ce co):
  Calls Try.prog 22 #[v1,v2] w fun e w'=>e= .returned (.bool true)∧Below w.heap.size w w':=by
 obtain ⟨-,h3,h4,h5,h6,h7,h8⟩:=hok.small
 exact sameFacts_any v1 v2 hs tops lps live ce co w h1 h2 (fun j=>by have:=h7 j;unfold maxLen;omega) (fun j=>by have:=h8 j;unfold maxLen;omega) (by unfold maxLen;omega) ⟨by omega,by omega,by omega⟩
theorem run_good (p:PrgM) (w:World) (hp:PrgAt w p) {hs:List (List Int)} {tops:List Int} {lps:List (List Int)} {live:List Bool} {ce co:Int} (hok:FactsOk p.plain hs tops lps live ce co):
  Calls Try.prog 13 #[p.val] w fun e w'=>∃HR LR AH cH AT cT AL cL gL,e= .returned (.tuple #[.agg #[.slice AH hs.length cH,.slice AT tops.length cT,.slice AL lps.length cL,.slice (some ⟨gL,0,none⟩) live.length live.length,.int .i64 ce,.int .i64 co],.agg #[.int .i64 0,.int .i64 0,.int .i64 0]])∧
   TurnM w' w.heap.size w'.heap.size hs lps tops live HR LR AH cH AT cT AL cL gL∧Below w.heap.size w w':=
 (run_any p w hp).mono fun e w' h=>by
  obtain ⟨hb,⟨x,hx,-⟩|⟨hs',tops',lps',live',ce',co',HR,LR,AH,cH,AT,cT,AL,cL,gL,hok',hM,hL,rfl⟩⟩:=h
  ·exact (hok.noBad hx).elim
  obtain ⟨rfl,rfl,rfl,rfl,rfl,rfl⟩:=hok.unique hok';exact ⟨HR,LR,AH,cH,AT,cT,AL,cL,gL,rfl,TurnM.of_run hM hL,hb⟩
theorem SoleG.app {w:World} {B:Nat} {e:TypeId} {sz:Nat} {qs xs:List (LG×List Value)} (h:SoleG w B e sz qs) (k:SoleG w B e sz xs) (hap:∀q∈qs,∀x∈xs,∀b,q.1.A.map (·.block)=some b→x.1.A.map (·.block)≠some b):SoleG w B e sz (qs++xs):=by
 have key:∀(k:Nat) (y:LG×List Value),(qs++xs)[k]?=some y→(k<qs.length∧qs[k]?=some y)∨(qs.length≤k∧xs[k-qs.length]?=some y):=fun k y hk=>by
  by_cases h1:k<qs.length
  ·rw[List.getElem?_append_left h1] at hk;exact .inl ⟨h1,hk⟩
  rw[List.getElem?_append_right (by omega)] at hk;exact .inr ⟨by omega,hk⟩
 refine ⟨fun f hf=>?_,fun i j f g hi hj hij b hb1 hb2=>?_⟩
 ·rcases List.mem_append.1 hf with hf|hf
  ·exact h.own f hf
  exact k.own f hf
 rcases key i f hi with ⟨h1,h2⟩|⟨h1,h2⟩
 ·rcases key j g hj with ⟨h3,h4⟩|⟨h3,h4⟩
  ·exact h.sole i j f g h2 h4 hij b hb1 hb2
  exact hap f (List.mem_of_getElem? h2) g (List.mem_of_getElem? h4) b hb1 hb2
 rcases key j g hj with ⟨h3,h4⟩|⟨h3,h4⟩
 ·exact hap g (List.mem_of_getElem? h4) f (List.mem_of_getElem? h2) b hb2 hb1
 exact k.sole _ _ f g h2 h4 (by omega) b hb1 hb2
theorem SoleG.mono {w:World} {B B':Nat} {e:TypeId} {sz:Nat} {qs:List (LG×List Value)} (h:SoleG w B e sz qs) (hb:B'≤B):SoleG w B' e sz qs:=⟨fun q hq=>(h.own q hq).mono hb,h.sole⟩
theorem SoleG.one {w:World} {B:Nat} {e:TypeId} {sz:Nat} {x:LG×List Value} (h:Own w B e sz x.1.A x.1.n x.1.c x.2):SoleG w B e sz [x]:=
 ⟨fun q hq=>by rw[List.mem_singleton.1 hq];exact h,fun i j p r hi hj hij=>by
  have h1:=(List.getElem?_eq_some_iff.1 hi).1;have h2:=(List.getElem?_eq_some_iff.1 hj).1;simp only[List.length_singleton] at h1 h2;omega⟩
theorem SoleG.two {w:World} {B:Nat} {e:TypeId} {sz:Nat} {x y:LG×List Value} (hx:Own w B e sz x.1.A x.1.n x.1.c x.2) (hy:Own w B e sz y.1.A y.1.n y.1.c y.2) (hap:∀b,x.1.A.map (·.block)=some b→y.1.A.map (·.block)≠some b):SoleG w B e sz [x,y]:=
 (SoleG.one hx).app (SoleG.one hy) fun q hq r hr b e=>by
  rw[List.mem_singleton.1 hq] at e;rw[List.mem_singleton.1 hr];exact hap b e
theorem hdrs_app (qs xs:List (LG×List Value)):hdrs (qs++xs)=hdrs qs++hdrs xs:=by unfold hdrs;rw[List.map_append]
theorem hdrs_one (qs:List (LG×List Value)):∀u∈hdrs qs,u.oneCell'=true:=fun u hu=>by
 unfold hdrs at hu;obtain ⟨q,-,rfl⟩:=List.mem_map.1 hu;rfl
structure BookM (w:World) (B:Nat) (QI QL QB:List (LG×List Value)) (AI:Option Addr) (cI:Nat) (AL:Option Addr) (cL:Nat) (AB:Option Addr) (cB:Nat):Prop where
 i:SoleG w B 3 1 QI
 l:SoleG w B 29 1 QL
 b:SoleG w B 4 1 QB
 ri:Own w B 29 1 AI QI.length cI (hdrs QI)
 rl:Own w B 28 1 AL QL.length cL (hdrs QL)
 rb:Own w B 30 1 AB QB.length cB (hdrs QB)
 far:∀q∈QL,∀b,q.1.A.map (·.block)=some b→AI.map (·.block)≠some b
 si:∀q∈QI,q.1.n≤1000000
 sl:∀q∈QL,q.1.n≤1000000
 sb:∀q∈QB,q.1.n≤1000000
section
variable {w w':World} {B:Nat} {QI QL QB X:List (LG×List Value)} {AI AL AB A2:Option Addr} {cI cL cB c2:Nat}
theorem BookM.start (w:World) (B:Nat):BookM w B [] [] [] none 0 none 0 none 0:=
 ⟨.nil _ _ _ _,.nil _ _ _ _,.nil _ _ _ _,Own.nil _ _ _ _,Own.nil _ _ _ _,Own.nil _ _ _ _,(fun q h=>by cases h),(fun q h=>by cases h),(fun q h=>by cases h),(fun q h=>by cases h)⟩
theorem BookM.below (h:BookM w B QI QL QB AI cI AL cL AB cB) (hb:Below w.heap.size w w'):BookM w' B QI QL QB AI cI AL cL AB cB:=
 ⟨h.i.below hb,h.l.below hb,h.b.below hb,Own.below h.ri hb (Nat.le_refl _),Own.below h.rl hb (Nat.le_refl _),Own.below h.rb hb (Nat.le_refl _),h.far,h.si,h.sl,h.sb⟩
theorem BookM.pushI (h:BookM w B QI QL QB AI cI AL cL AB cB) (hX:SoleG w B 3 1 X) (hap:∀q∈QI,∀x∈X,∀b,q.1.A.map (·.block)=some b→x.1.A.map (·.block)≠some b) (hs:∀q∈X,q.1.n≤1000000)
  (ho:Own w' B 29 1 A2 (QI.length+X.length) c2 (hdrs QI++hdrs X)) (hg:w.grownBy w' (AI.map (·.block))) (hA:A2.map (·.block)=AI.map (·.block)∨A2.map (·.block)=some w.heap.size):
  BookM w' B (QI++X) QL QB A2 c2 AL cL AB cB:=by
 have hO:Only (fun k=>AI.map (·.block)=some k) w w':=Only.of_grown hg fun k e=>e
 refine ⟨(h.i.only hO fun q hq b e e2=>ownG_ne h.ri (h.i.own q hq) (by decide) b e2 e).app (hX.only hO fun q hq b e e2=>ownG_ne h.ri (hX.own q hq) (by decide) b e2 e) hap,h.l.only hO h.far,h.b.only hO fun q hq b e e2=>ownG_ne h.ri (h.b.own q hq) (by decide) b e2 e,
  by rw[List.length_append,hdrs_app];exact ho,Own.only h.rl hO fun b o e e2=>ownG_ne h.ri h.rl (by decide) b e2 (by rw[e];rfl),Own.only h.rb hO fun b o e e2=>ownG_ne h.ri h.rb (by decide) b e2 (by rw[e];rfl),fun q hq b e e2=>?_,fun q hq=>?_,h.sl,h.sb⟩
 ·rcases hA with hA|hA
  ·exact h.far q hq b e (by rw[←hA];exact e2)
  rw[e2] at hA;have hbw:b=w.heap.size:=Option.some.inj hA;have:=(h.l.lt q hq b e).2;omega
 ·rcases List.mem_append.1 hq with hq|hq
  ·exact h.si q hq
  exact hs q hq
theorem BookM.pushL (h:BookM w B QI QL QB AI cI AL cL AB cB) (hX:SoleG w B 29 1 X) (hap:∀q∈QL,∀x∈X,∀b,q.1.A.map (·.block)=some b→x.1.A.map (·.block)≠some b) (hs:∀q∈X,q.1.n≤1000000) (hf:∀q∈X,∀b,q.1.A.map (·.block)=some b→AI.map (·.block)≠some b)
  (ho:Own w' B 28 1 A2 (QL.length+X.length) c2 (hdrs QL++hdrs X)) (hg:w.grownBy w' (AL.map (·.block))):
  BookM w' B QI (QL++X) QB AI cI A2 c2 AB cB:=by
 have hO:Only (fun k=>AL.map (·.block)=some k) w w':=Only.of_grown hg fun k e=>e
 refine ⟨h.i.only hO fun q hq b e e2=>ownG_ne h.rl (h.i.own q hq) (by decide) b e2 e,(h.l.only hO fun q hq b e e2=>ownG_ne h.rl (h.l.own q hq) (by decide) b e2 e).app (hX.only hO fun q hq b e e2=>ownG_ne h.rl (hX.own q hq) (by decide) b e2 e) hap,h.b.only hO fun q hq b e e2=>ownG_ne h.rl (h.b.own q hq) (by decide) b e2 e,
  Own.only h.ri hO fun b o e e2=>ownG_ne h.rl h.ri (by decide) b e2 (by rw[e];rfl),by rw[List.length_append,hdrs_app];exact ho,Own.only h.rb hO fun b o e e2=>ownG_ne h.rl h.rb (by decide) b e2 (by rw[e];rfl),fun q hq=>?_,h.si,fun q hq=>?_,h.sb⟩
 ·rcases List.mem_append.1 hq with hq|hq
  ·exact h.far q hq
  exact hf q hq
 ·rcases List.mem_append.1 hq with hq|hq
  ·exact h.sl q hq
  exact hs q hq
theorem BookM.pushB (h:BookM w B QI QL QB AI cI AL cL AB cB) (hX:SoleG w B 4 1 X) (hap:∀q∈QB,∀x∈X,∀b,q.1.A.map (·.block)=some b→x.1.A.map (·.block)≠some b) (hs:∀q∈X,q.1.n≤1000000)
  (ho:Own w' B 30 1 A2 (QB.length+X.length) c2 (hdrs QB++hdrs X)) (hg:w.grownBy w' (AB.map (·.block))):
  BookM w' B QI QL (QB++X) AI cI AL cL A2 c2:=by
 have hO:Only (fun k=>AB.map (·.block)=some k) w w':=Only.of_grown hg fun k e=>e
 refine ⟨h.i.only hO fun q hq b e e2=>ownG_ne h.rb (h.i.own q hq) (by decide) b e2 e,h.l.only hO fun q hq b e e2=>ownG_ne h.rb (h.l.own q hq) (by decide) b e2 e,(h.b.only hO fun q hq b e e2=>ownG_ne h.rb (h.b.own q hq) (by decide) b e2 e).app (hX.only hO fun q hq b e e2=>ownG_ne h.rb (hX.own q hq) (by decide) b e2 e) hap,
  Own.only h.ri hO fun b o e e2=>ownG_ne h.rb h.ri (by decide) b e2 (by rw[e];rfl),Own.only h.rl hO fun b o e e2=>ownG_ne h.rb h.rl (by decide) b e2 (by rw[e];rfl),by rw[List.length_append,hdrs_app];exact ho,h.far,h.si,h.sl,fun q hq=>?_⟩
 rcases List.mem_append.1 hq with hq|hq
 ·exact h.sb q hq
 ·exact hs q hq
end
theorem SoleG.listsH {w:World} {B b0:Nat} {e rowT:TypeId} {sz c:Nat} {qs:List (LG×List Value)} {A:Option Addr} (h:SoleG w B e sz qs) (hr:Own w b0 rowT 1 A qs.length c (hdrs qs)) (hne:rowT≠e) (hm:qs.length≤1000) (hs:∀q∈qs,q.1.n≤1000000):
  ListsH w B e sz A (qs.map (·.1)) (fun t=>((qs[t]?).map (·.2)).getD []):=by
 have hget:∀(t:Nat) (p:LG),(qs.map (·.1))[t]?=some p→∃q:LG×List Value,qs[t]?=some q∧q.1=p:=fun t p hp=>by
  rw[List.getElem?_map] at hp;obtain ⟨q,h1,h2⟩:=Option.map_eq_some_iff.1 hp;exact ⟨q,h1,h2⟩
 refine ⟨?_,fun t p hp=>?_,fun i j p r hij hp hr'=>?_,fun p hp b o e1 e2=>?_,by rw[List.length_map];exact hm,fun p hp=>?_⟩
 ·have h1:=RV.of_own hr;unfold hdrs at h1;rw[List.map_map];exact h1
 ·obtain ⟨q,h1,rfl⟩:=hget t p hp;rw[h1];exact h.own q (List.mem_of_getElem? h1)
 ·obtain ⟨q,h1,rfl⟩:=hget i p hp;obtain ⟨q',h2,rfl⟩:=hget j r hr';exact h.sole i j q q' h1 h2 hij
 ·obtain ⟨q,h1,rfl⟩:=List.mem_map.1 hp;exact ownG_ne hr (h.own q h1) hne b (by rw[e1];rfl) e2
 ·obtain ⟨q,h1,rfl⟩:=List.mem_map.1 hp;exact hs q h1
end
section
open Go.RowKit
theorem BadAt.ne {P:Prg} {x:Int×Int×Int} (h:BadAt P x):x.1≠0:=by
 rcases h with ⟨h1,rfl⟩|⟨-,-,rfl⟩|⟨-,h3⟩|⟨-,-,f,n,er,-,-,-,h4,rfl⟩
 ·exact h1
 ·exact fun e=>absurd e (by decide)
 ·exact firstP_ne h3
 exact h4
theorem firstI_no {bad:Ins→Int} {l:List Ins} (h:∀i∈l,bad i=0) (n:Nat):firstI bad l n=none:=by
 induction l generalizing n with
 |nil=>rfl
 |cons x l ih=>
  unfold firstI;rw[if_pos (h x (List.mem_cons_self ..))];exact ih (fun i hi=>h i (List.mem_cons_of_mem _ hi)) _
theorem firstP_no {P:Prg} {l:List Fun} (h:∀g∈l,∀i∈g.code,badOp P g i=0) (k:Nat):firstP P l k=none:=by
 induction l generalizing k with
 |nil=>rfl
 |cons x l ih=>
  unfold firstP;rw[firstI_no (h x (List.mem_cons_self ..))];exact ih (fun g hg=>h g (List.mem_cons_of_mem _ hg)) _
def popF (f:Fun):Fun:=⟨f.args,f.locals,f.results,f.code.set 0 ⟨4,0⟩⟩
def popP (P:Prg) (f:Fun):Prg:=⟨P.mem,P.data,P.fs.set 0 (popF f)⟩
section
variable {P:Prg} {f:Fun}
theorem popP_mem {g:Fun} (hg:g∈(popP P f).fs):g=popF f∨g∈P.fs:=by
 rcases List.mem_or_eq_of_mem_set hg with h|h
 ·exact .inr h
 exact .inl h
theorem popP_len:(popP P f).fs.length=P.fs.length:=List.length_set
theorem pop_good:insGood ⟨4,0⟩:=by unfold insGood;exact ⟨by kernel_rfl,by kernel_rfl⟩
theorem popP_chk (h:checkL P=0) (hf:P.fs[0]?=some f):checkL (popP P f)=0:=by
 obtain ⟨h1,h2⟩:=(checkL_ok P).1 h;refine (checkL_ok _).2 ⟨?_,fun g hg=>?_⟩
 ·have:(popP P f).fs.length=P.fs.length:=popP_len;unfold badH at h1 ⊢;rw[this];exact h1
 rcases popP_mem hg with rfl|hg
 ·obtain ⟨hb,he⟩:=h2 f (List.mem_of_getElem? hf);refine ⟨?_,?_⟩
  ·unfold badF popF at*;rw[List.length_set];exact hb
  obtain ⟨h3,-,h5⟩:=encL_ok (show encL f.code=((encL f.code).1,0) from by rw[←he])
  show (encL (f.code.set 0 ⟨4,0⟩)).2=0
  rw[encL_good (by rw[List.length_set];exact h3) fun i hi=>by
   rcases List.mem_or_eq_of_mem_set hi with h|h
   ·exact h5 i h
   rw[h];exact pop_good]
 exact h2 g hg
theorem popP_ops (h:firstP P P.fs 0=none) (hf:P.fs[0]?=some f):firstP (popP P f) (popP P f).fs 0=none:=by
 have h1:=firstP_none h;refine firstP_no (fun g hg i hi=>?_) 0;have hl:(popP P f).fs.length=P.fs.length:=popP_len;have he:∀(g':Fun) (i:Ins),badOp (popP P f) g' i=badOp P g' i:=fun g' i=>by unfold badOp;rw[hl]
 rw[he];rcases popP_mem hg with rfl|hg
 ·rcases List.mem_or_eq_of_mem_set (show i∈f.code.set 0 ⟨4,0⟩ from hi) with h|h
  ·have h2:=h1 f (List.mem_of_getElem? hf) i h;unfold badOp popF at*;rw[List.length_set];exact h2
  rw[h];rfl
 exact h1 g hg i hi
theorem popP_get (hf:P.fs[0]?=some f):(popP P f).fs[0]?=some (popF f):=List.getElem?_set_self (List.getElem?_eq_some_iff.1 hf).1
theorem popP_ins (hf:P.fs[0]?=some f) (hc:0<f.code.length):(popP P f).ins (0:Nat) (0:Nat)=some ⟨4,0⟩:=by
 unfold Prg.ins;rw[if_neg (by omega)]
 show ((popP P f).fs[0]?).bind (fun g=>g.code[0]?)=some ⟨4,0⟩
 rw[popP_get hf];exact List.getElem?_set_self hc
theorem popP_bad (hl:Lead P) (hg:Good P) (hf:P.fs[0]?=some f):BadAt (popP P f) (134,0,0):=by
 have hc:0<f.code.length:=by
  have:=(good_fn hl.chk (List.mem_of_getElem? hf)).c0;omega
 have hlen:(popP P f).len ((0:Nat):Int)=f.code.length:=by
  unfold Prg.len;show (((popP P f).fs[0]?).map fun g=>g.code.length).getD 0=_
  rw[popP_get hf];exact List.length_set
 have hP0:0<P.fs.length:=(List.getElem?_eq_some_iff.1 hf).1;refine .inr (.inr (.inr ⟨⟨popP_chk hl.chk hf,?_,?_⟩,popP_ops hg.ops hf,0,0,134,by rw[popP_len];exact hP0,fun g hg=>absurd hg (Nat.not_lt_zero _),?_,by decide,rfl⟩))
 ·have h1:=hl.args;unfold Prg.args at h1 ⊢;change ((P.fs[0]?).map Fun.args).getD 0=0 at h1
  show (((popP P f).fs[0]?).map Fun.args).getD 0=0
  rw[popP_get hf];rw[hf] at h1;exact h1
 ·have h1:=hl.results;unfold Prg.results at h1 ⊢;change ((P.fs[0]?).map Fun.results).getD 0=1 at h1
  show (((popP P f).fs[0]?).map Fun.results).getD 0=1
  rw[popP_get hf];rw[hf] at h1;exact h1
 rw[hlen];have hi:=popP_ins hf hc
 have ht:takesL (popP P f) ((0:Nat):Int) ((0:Nat):Int)=(1,0):=by
  unfold takesL;rw[hi];kernel_rfl
 refine .bad (n:=0) (i:=⟨4,0⟩) (x:=0) (e:=134) (b:=0) ?_ (fun j hj=>absurd hj (Nat.not_lt_zero _)) ?_ hi ?_ (by decide)
 ·unfold w0L;exact List.getElem?_set_self (by rw[List.length_replicate];exact hc)
 ·unfold h0L;exact List.getElem?_set_self (by rw[List.length_replicate];exact hc)
 unfold standI;rw[ht];rfl
theorem popP_next (hf:P.fs[0]?=some f) (hc:0<f.code.length):(nextL (popP P f) 0 0).length≤1:=by
 unfold nextL;rw[show (popP P f).ins 0 0=some ⟨4,0⟩ from popP_ins hf hc]
 exact Nat.le_trans (List.length_filter_le _ _) (by decide)
end
end
end Go.Proofs.Ytcmpmhlcfalbhaa
