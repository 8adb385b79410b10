import Derived.Test.YtcmpmhlcfalbhaaV29
import Derived.Test.YtcmpmhlcfalbhaaV30
import Derived.Test.YtcmpmhlcfalbhaaV27
import Derived.Test.YtcmpmhlcfalbhaaV16
namespace Go.Proofs.Ytcmpmhlcfalbhaa
section
open Go.RowKit
section
variable {P:Prg} {f:Nat} {h:List Int}
theorem nxN_eq (H:HFin P f h) (hg:checkL P=0) {v:Nat} (hr:Reach (nxF P f) 0 v):nxN P f h v=nxF P f v:=by
 obtain ⟨x,hx,h0⟩:=H.reach hg hr;unfold nxN nxI nxF;rw[List.getD_eq_getElem?_getD,hx,if_neg (by simp;omega)]
theorem nxN_reach (H:HFin P f h) (hg:checkL P=0) {a v:Nat} (ha:Reach (nxF P f) 0 a):Reach (nxN P f h) a v↔Reach (nxF P f) a v:=by
 constructor
 ·intro hr;induction hr with
  |refl=>exact .refl _
  |step h1 _ ih=>
   rw[nxN_eq H hg ha] at h1;exact .step h1 (ih (ha.trans (.one h1)))
 intro hr;induction hr with
 |refl=>exact .refl _
 |step h1 _ ih=>
  exact .step (by rw[nxN_eq H hg ha];exact h1) (ih (ha.trans (.one h1)))
theorem loops_eq (H:HFin P f h) (hg:checkL P=0) (n:Nat):loopsL (nxN P f h) n=loopsL (nxF P f) n:=by
 classical
 unfold loopsL;congr 1
 refine List.filter_congr fun v _=>?_;rw[Bool.eq_iff_iff,decide_eq_true_iff,decide_eq_true_iff,nxN_reach H hg (.refl 0)];refine and_congr_right fun hr=>?_;unfold Cyc;rw[nxN_eq H hg hr];exact exists_congr fun u=>and_congr_right fun hu=>nxN_reach H hg (hr.trans (.one hu))
theorem loops_none (n:Nat) (nx:Nat→List Nat) (hn:∀v,Reach nx 0 v→v<n):(loopsL nx n).length=0↔∀v,Reach nx 0 v→¬ Cyc nx v:=by
 classical
 unfold loopsL;rw[List.length_map,List.length_eq_zero_iff,List.filter_eq_nil_iff];constructor
 ·intro h v hr hc;exact h v (List.mem_range.2 (hn v hr)) (decide_eq_true ⟨hr,hc⟩)
 intro h v _ hd;have:=of_decide_eq_true hd;exact h v this.1 this.2
end
def zFacts:Value:=.agg #[.slice none 0 0,.slice none 0 0,.slice none 0 0,.slice none 0 0,.int .i64 0,.int .i64 0]
structure Lead (P:Prg):Prop where
 chk:checkL P=0
 args:P.args 0=0
 results:P.results 0=1
def BadAt (P:Prg) (x:Int×Int×Int):Prop:=
 (checkL P≠0∧x=(checkL P,0,0))∨(checkL P=0∧(P.args 0≠0∨P.results 0≠1)∧x=(139,0,0))∨(Lead P∧firstP P P.fs 0=some x)∨
 (Lead P∧firstP P P.fs 0=none∧∃(f n:Nat) (er:Int),f<P.fs.length∧(∀g,g<f→∃h,HFin P g h)∧HRuns P f (h0L (P.len f)) (w0L (P.len f)) (.inr (er,n))∧er≠0∧x=(er,(f:Int),(n:Int)))
structure FactsOk (P:Prg) (hs:List (List Int)) (tops:List Int) (lps:List (List Int)) (live:List Bool) (ce co:Int):Prop where
 lead:Lead P
 good:Good P
 lh:hs.length=P.fs.length
 lt:tops.length=P.fs.length
 ll:lps.length=P.fs.length
 lv:live.length=P.fs.length
 fin:∀f,f<P.fs.length→HFin P f (hs.getD f [])
 top:∀f,f<P.fs.length→TopF P f (hs.getD f []) (tops.getD f 0)
 loops:∀f,f<P.fs.length→lps.getD f []=loopsL (nxF P f) (P.len f)
 live:∀v:Nat,live[v]?=some true↔Reach (cg P hs) 0 v
 cells:CellsIs P hs tops ce
 cost:CostIs P hs co
structure RunM (w:World) (B:Nat) (hs lps:List (List Int)) (tops:List Int) (HR LR:List (LG×List Value)) (AH:Option Addr) (cH:Nat) (AT:Option Addr) (cT:Nat) (AL:Option Addr) (cL:Nat):Prop where
 hh:HR.map (·.2)=hs.map (·.map iv)
 hl:LR.map (·.2)=lps.map (·.map iv)
 sh:SoleG w B 3 1 HR
 sl:SoleG w B 3 1 LR
 hlx:∀q∈HR,∀r∈LR,∀b,q.1.A.map (·.block)=some b→r.1.A.map (·.block)≠some b
 oh:Own w B 29 1 AH HR.length cH (hdrs HR)
 ol:Own w B 29 1 AL LR.length cL (hdrs LR)
 ot:OwnI w B AT tops.length cT tops
 ahl:∀b,AH.map (·.block)=some b→AL.map (·.block)≠some b
 thh:∀q∈HR,∀b,AT.map (·.block)=some b→q.1.A.map (·.block)≠some b
 thl:∀q∈LR,∀b,AT.map (·.block)=some b→q.1.A.map (·.block)≠some b
section
variable {w w':World} {B:Nat} {hs lps:List (List Int)} {tops:List Int} {HR LR:List (LG×List Value)} {AH AT AL:Option Addr} {cH cT cL:Nat}
theorem RunM.start (w:World) (B:Nat):RunM w B [] [] [] [] [] none 0 none 0 none 0:=
 ⟨rfl,rfl,.nil _ _ _ _,.nil _ _ _ _,(fun q h=>by cases h),Own.nil _ _ _ _,Own.nil _ _ _ _,Own.nil _ _ _ _,(fun b h=>by cases h),(fun q h=>by cases h),(fun q h=>by cases h)⟩
theorem RunM.keep (h:RunM w B hs lps tops HR LR AH cH AT cT AL cL) {S:Nat→Prop} (ho:Only S w w') (h1:∀q∈HR,∀b,q.1.A.map (·.block)=some b→¬ S b) (h2:∀q∈LR,∀b,q.1.A.map (·.block)=some b→¬ S b)
  (h3:∀b,AH.map (·.block)=some b→¬ S b) (h4:∀b,AL.map (·.block)=some b→¬ S b) (h5:∀b,AT.map (·.block)=some b→¬ S b):RunM w' B hs lps tops HR LR AH cH AT cT AL cL:=
 ⟨h.hh,h.hl,h.sh.only ho h1,h.sl.only ho h2,h.hlx,Own.only h.oh ho (fun b o e=>h3 b (by rw[e];rfl)),Own.only h.ol ho (fun b o e=>h4 b (by rw[e];rfl)),Own.only h.ot ho (fun b o e=>h5 b (by rw[e];rfl)),h.ahl,h.thh,h.thl⟩
theorem RunM.below (h:RunM w B hs lps tops HR LR AH cH AT cT AL cL) (hb:Below w.heap.size w w'):RunM w' B hs lps tops HR LR AH cH AT cT AL cL:=
 h.keep (S:=fun _=>False) (Only.of_fresh hb) (fun _ _ _ _ h=>h) (fun _ _ _ _ h=>h) (fun _ _ h=>h) (fun _ _ h=>h) (fun _ _ h=>h)
theorem own_blk_ne {w:World} {base size n c g:Nat} {e t:TypeId} {A:Option Addr} {vs:List Value} {cs:Array Value} (h:Own w base e size A n c vs) (hg:Blk w g t cs) (hne:e≠t) (b:Nat) (hb:A.map (·.block)=some b):b≠g:=by
 obtain ⟨h1,-,-⟩:=ownG_form h b hb;exact Own.ne_blk h hg hne b 0 h1
theorem RunM.one (h:RunM w B hs lps tops HR LR AH cH AT cT AL cL) {g:Nat} {t:TypeId} {cs:Array Value} (hg:Blk w g t cs) (h1:3≠t) (h2:29≠t) (ho:Only (fun k=>k=g) w w'):RunM w' B hs lps tops HR LR AH cH AT cT AL cL:=
 h.keep ho (fun q hq b e=>own_blk_ne (h.sh.own q hq) hg h1 b e) (fun q hq b e=>own_blk_ne (h.sl.own q hq) hg h1 b e) (fun b e=>own_blk_ne h.oh hg h2 b e) (fun b e=>own_blk_ne h.ol hg h2 b e) (fun b e=>own_blk_ne h.ot hg h1 b e)
theorem hdrs_push (qs:List (LG×List Value)) (x:LG×List Value):hdrs (qs++[x])=hdrs qs++[x.1.val]:=by unfold hdrs;rw[List.map_append];rfl
theorem RunM.pushH (h:RunM w B hs lps tops HR LR AH cH AT cT AL cL) {A A2:Option Addr} {c c2 B2:Nat} {xs:List Int} (hx:OwnI w B2 A xs.length c xs) (hB:B≤B2) (h1:∀q∈HR,∀b,q.1.A.map (·.block)=some b→b<B2) (h2:∀q∈LR,∀b,q.1.A.map (·.block)=some b→b<B2) (h5:∀b,AT.map (·.block)=some b→b<B2)
  (ho:Own w' B 29 1 A2 (HR.length+1) c2 (hdrs HR++[.slice A xs.length c])) (hg:w.grownBy w' (AH.map (·.block))) (hA:A2.map (·.block)=AH.map (·.block)∨A2.map (·.block)=some w.heap.size):
  RunM w' B (hs++[xs]) lps tops (HR++[(⟨A,xs.length,c⟩,xs.map iv)]) LR A2 c2 AT cT AL cL:=by
 have hO:Only (fun k=>AH.map (·.block)=some k) w w':=Only.of_grown hg fun k e=>e
 have hi:29≠3:=by decide
 have n1:∀q∈HR,∀b,q.1.A.map (·.block)=some b→¬ AH.map (·.block)=some b:=fun q hq b e e2=>ownG_ne h.oh (h.sh.own q hq) hi b e2 e
 have n2:∀q∈LR,∀b,q.1.A.map (·.block)=some b→¬ AH.map (·.block)=some b:=fun q hq b e e2=>ownG_ne h.oh (h.sl.own q hq) hi b e2 e
 have n4:∀b,AL.map (·.block)=some b→¬ AH.map (·.block)=some b:=fun b e e2=>h.ahl b e2 e
 have n5:∀b,AT.map (·.block)=some b→¬ AH.map (·.block)=some b:=fun b e e2=>ownG_ne h.oh h.ot hi b e2 e
 have nx:∀b,A.map (·.block)=some b→¬ AH.map (·.block)=some b:=fun b e e2=>ownG_ne h.oh hx hi b e2 e
 have hx':OwnI w' B2 A xs.length c xs:=Own.only hx hO fun b o e=>nx b (by rw[e];rfl)
 refine ⟨by rw[List.map_append,List.map_append,h.hh];rfl,h.hl,(h.sh.only hO n1).push hx' hB h1,h.sl.only hO n2,fun q hq r hr b e e2=>?_,by rw[hdrs_push,List.length_append];exact ho,Own.only h.ol hO (fun b o e=>n4 b (by rw[e];rfl)),Own.only h.ot hO (fun b o e=>n5 b (by rw[e];rfl)),fun b e e2=>?_,fun q hq b e e2=>?_,h.thl⟩
 ·rcases List.mem_append.1 hq with hq|hq
  ·exact h.hlx q hq r hr b e e2
  rw[List.mem_singleton.1 hq] at e;have:=(Own.row hx b e).1;have:=h2 r hr b e2;omega
 ·rcases hA with hA|hA
  ·exact h.ahl b (by rw[←hA];exact e) e2
  rw[e] at hA;have hbw:b=w.heap.size:=Option.some.inj hA;have:=(Own.row h.ol b e2).2;omega
 ·rcases List.mem_append.1 hq with hq|hq
  ·exact h.thh q hq b e e2
  rw[List.mem_singleton.1 hq] at e2;have:=(Own.row hx b e2).1;have:=h5 b e;omega
theorem RunM.pushL (h:RunM w B hs lps tops HR LR AH cH AT cT AL cL) {A A2:Option Addr} {c c2 B2:Nat} {xs:List Int} (hx:OwnI w B2 A xs.length c xs) (hB:B≤B2) (h1:∀q∈HR,∀b,q.1.A.map (·.block)=some b→b<B2) (h2:∀q∈LR,∀b,q.1.A.map (·.block)=some b→b<B2) (h5:∀b,AT.map (·.block)=some b→b<B2)
  (ho:Own w' B 29 1 A2 (LR.length+1) c2 (hdrs LR++[.slice A xs.length c])) (hg:w.grownBy w' (AL.map (·.block))) (hA:A2.map (·.block)=AL.map (·.block)∨A2.map (·.block)=some w.heap.size):
  RunM w' B hs (lps++[xs]) tops HR (LR++[(⟨A,xs.length,c⟩,xs.map iv)]) AH cH AT cT A2 c2:=by
 have hO:Only (fun k=>AL.map (·.block)=some k) w w':=Only.of_grown hg fun k e=>e
 have hi:29≠3:=by decide
 have n1:∀q∈HR,∀b,q.1.A.map (·.block)=some b→¬ AL.map (·.block)=some b:=fun q hq b e e2=>ownG_ne h.ol (h.sh.own q hq) hi b e2 e
 have n2:∀q∈LR,∀b,q.1.A.map (·.block)=some b→¬ AL.map (·.block)=some b:=fun q hq b e e2=>ownG_ne h.ol (h.sl.own q hq) hi b e2 e
 have n4:∀b,AH.map (·.block)=some b→¬ AL.map (·.block)=some b:=fun b e e2=>h.ahl b e e2
 have n5:∀b,AT.map (·.block)=some b→¬ AL.map (·.block)=some b:=fun b e e2=>ownG_ne h.ol h.ot hi b e2 e
 have nx:∀b,A.map (·.block)=some b→¬ AL.map (·.block)=some b:=fun b e e2=>ownG_ne h.ol hx hi b e2 e
 have hx':OwnI w' B2 A xs.length c xs:=Own.only hx hO fun b o e=>nx b (by rw[e];rfl)
 refine ⟨h.hh,by rw[List.map_append,List.map_append,h.hl];rfl,h.sh.only hO n1,(h.sl.only hO n2).push hx' hB h2,fun q hq r hr b e e2=>?_,Own.only h.oh hO (fun b o e=>n4 b (by rw[e];rfl)),by rw[hdrs_push,List.length_append];exact ho,Own.only h.ot hO (fun b o e=>n5 b (by rw[e];rfl)),fun b e e2=>?_,h.thh,fun q hq b e e2=>?_⟩
 ·rcases List.mem_append.1 hr with hr|hr
  ·exact h.hlx q hq r hr b e e2
  rw[List.mem_singleton.1 hr] at e2;have:=(Own.row hx b e2).1;have:=h1 q hq b e;omega
 ·rcases hA with hA|hA
  ·exact h.ahl b e (by rw[←hA];exact e2)
  rw[e2] at hA;have hbw:b=w.heap.size:=Option.some.inj hA;have:=(Own.row h.oh b e).2;omega
 ·rcases List.mem_append.1 hq with hq|hq
  ·exact h.thl q hq b e e2
  rw[List.mem_singleton.1 hq] at e2;have:=(Own.row hx b e2).1;have:=h5 b e;omega
theorem RunM.pushT (h:RunM w B hs lps tops HR LR AH cH AT cT AL cL) {A2:Option Addr} {c2:Nat} {x:Int}
  (ho:Own w' B 3 1 A2 (tops.length+1) c2 (tops.map iv++[.int .i64 x])) (hg:w.grownBy w' (AT.map (·.block))) (hA:A2.map (·.block)=AT.map (·.block)∨A2.map (·.block)=some w.heap.size):
  RunM w' B hs lps (tops++[x]) HR LR AH cH A2 c2 AL cL:=by
 have hO:Only (fun k=>AT.map (·.block)=some k) w w':=Only.of_grown hg fun k e=>e
 have hi:29≠3:=by decide
 have n1:∀q∈HR,∀b,q.1.A.map (·.block)=some b→¬ AT.map (·.block)=some b:=fun q hq b e e2=>h.thh q hq b e2 e
 have n2:∀q∈LR,∀b,q.1.A.map (·.block)=some b→¬ AT.map (·.block)=some b:=fun q hq b e e2=>h.thl q hq b e2 e
 have n3:∀b,AH.map (·.block)=some b→¬ AT.map (·.block)=some b:=fun b e e2=>ownG_ne h.oh h.ot hi b e e2
 have n4:∀b,AL.map (·.block)=some b→¬ AT.map (·.block)=some b:=fun b e e2=>ownG_ne h.ol h.ot hi b e e2
 refine ⟨h.hh,h.hl,h.sh.only hO n1,h.sl.only hO n2,h.hlx,Own.only h.oh hO (fun b o e=>n3 b (by rw[e];rfl)),Own.only h.ol hO (fun b o e=>n4 b (by rw[e];rfl)),OwnI.push ho,h.ahl,fun q hq b e e2=>?_,fun q hq b e e2=>?_⟩
 ·rcases hA with hA|hA
  ·exact h.thh q hq b (by rw[←hA];exact e) e2
  rw[e] at hA;have hbw:b=w.heap.size:=Option.some.inj hA;have:=(h.sh.lt q hq b e2).2;omega
 ·rcases hA with hA|hA
  ·exact h.thl q hq b (by rw[←hA];exact e) e2
  rw[e] at hA;have hbw:b=w.heap.size:=Option.some.inj hA;have:=(h.sl.lt q hq b e2).2;omega
theorem RunM.lt (h:RunM w B hs lps tops HR LR AH cH AT cT AL cL):(∀q∈HR,∀b,q.1.A.map (·.block)=some b→b<w.heap.size)∧(∀q∈LR,∀b,q.1.A.map (·.block)=some b→b<w.heap.size)∧∀b,AT.map (·.block)=some b→b<w.heap.size:=
 ⟨fun q hq b e=>(h.sh.lt q hq b e).2,fun q hq b e=>(h.sl.lt q hq b e).2,fun b e=>(Own.row h.ot b e).2⟩
theorem RunM.lens (h:RunM w B hs lps tops HR LR AH cH AT cT AL cL):HR.length=hs.length∧LR.length=lps.length:=by
 have h1:=congrArg List.length h.hh;have h2:=congrArg List.length h.hl;simp only[List.length_map] at h1 h2;exact ⟨h1,h2⟩
end
end
section
section
variable {P:Prg} {hs lps:List (List Int)} {tops:List Int} {live:List Bool} {ce co:Int}
theorem len_pos {f:Nat} (hg:checkL P=0) (hf:f<P.fs.length):0<P.len f:=by
 have h:=(good_fn hg (List.getElem_mem hf)).c0;rw[Prg.len_of (List.getElem?_eq_getElem hf)];omega
theorem FactsOk.noBad (h:FactsOk P hs tops lps live ce co) {x:Int×Int×Int} (hb:BadAt P x):False:=by
 rcases hb with ⟨h1,-⟩|⟨-,h2,-⟩|⟨-,h3⟩|⟨-,-,f,n,er,hf,-,hR,-,-⟩
 ·exact h1 h.lead.chk
 ·rcases h2 with h2|h2
  ·exact h2 h.lead.args
  exact h2 h.lead.results
 ·rw[h.good.ops] at h3;cases h3
 have:=fin_runs (h.fin f hf) h.lead.chk (len_pos h.lead.chk hf) hR;cases this
theorem BadAt.unique {x y:Int×Int×Int} (hx:BadAt P x) (hy:BadAt P y):x=y:=by
 have lead2:Lead P→¬ (P.args 0≠0∨P.results 0≠1):=fun h e=>e.elim (fun e=>e h.args) (fun e=>e h.results);rcases hx with ⟨h1,e1⟩|⟨h1,h2,e1⟩|⟨h1,h2⟩|⟨h1,h2,f,n,er,hf,hg,hR,he,e1⟩
 ·rcases hy with ⟨k1,e2⟩|⟨k1,-⟩|⟨k1,-⟩|⟨k1,-⟩
  ·rw[e1,e2]
  ·exact absurd k1 h1
  ·exact absurd k1.chk h1
  exact absurd k1.chk h1
 ·rcases hy with ⟨k1,e2⟩|⟨k1,-,e2⟩|⟨k1,-⟩|⟨k1,-⟩
  ·exact absurd h1 k1
  ·rw[e1,e2]
  ·exact absurd h2 (lead2 k1)
  exact absurd h2 (lead2 k1)
 ·rcases hy with ⟨k1,e2⟩|⟨k1,k2,e2⟩|⟨k1,k2⟩|⟨k1,k2,-⟩
  ·exact absurd h1.chk k1
  ·exact absurd k2 (lead2 h1)
  ·rw[h2] at k2;injection k2
  rw[h2] at k2;cases k2
 rcases hy with ⟨k1,e2⟩|⟨k1,k2,e2⟩|⟨k1,k2⟩|⟨k1,k2,f',n',er',hf',hg',hR',he',e2⟩
 ·exact absurd h1.chk k1
 ·exact absurd k2 (lead2 h1)
 ·rw[h2] at k2;cases k2
 rcases Nat.lt_trichotomy f f' with h|h|h
 ·obtain ⟨k,hk⟩:=hg' f h;have:=fin_runs hk h1.chk (len_pos h1.chk hf) hR;cases this
 ·subst h;have:=hR.det hR';injection this with this
  injection this with e3 e4
  rw[e1,e2,e3,e4]
 obtain ⟨k,hk⟩:=hg f' h;have:=fin_runs hk h1.chk (len_pos h1.chk hf') hR';cases this
theorem FactsOk.heights {hs' lps':List (List Int)} {tops':List Int} {live':List Bool} {ce' co':Int} (h:FactsOk P hs tops lps live ce co) (k:FactsOk P hs' tops' lps' live' ce' co'):hs=hs':=by
 refine List.ext_getElem (by rw[h.lh,k.lh]) fun f h1 h2=>?_
 have hf:f<P.fs.length:=by rw[←h.lh];exact h1
 have h3:=h.fin f hf;have h4:=k.fin f hf;rw[List.getD_eq_getElem?_getD,List.getElem?_eq_getElem h1] at h3;rw[List.getD_eq_getElem?_getD,List.getElem?_eq_getElem h2] at h4;exact h3.unique h4 h.lead.chk
theorem cells_one {c c':Nat→Int} (hg:Good P) (ha:Acyc P hs) (h:CellsEq P hs tops c) (k:CellsEq P hs tops c'):c 0=c' 0:=by
 have key:∀(m f:Nat),rk (cg P hs) P.fs.length f<m→Reach (cg P hs) 0 f→c f=c' f:=by
  intro m;induction m with
  |zero=>intro f hm;omega
  |succ m ih=>
   intro f hm hr;have hf:=reach_lt hg hr;rw[h f hf hr,k f hf hr]
   have e:∀(l:List Nat) (x:Int),(∀n∈l,n∈callsN P hs f)→l.foldl (fun m n=>max m (htAt hs f n-P.args (P.aOf f n)+c (P.aOf f n))) x=l.foldl (fun m n=>max m (htAt hs f n-P.args (P.aOf f n)+c' (P.aOf f n))) x:=by
    intro l;induction l with
    |nil=>intro x _;rfl
    |cons a l ihl=>
     intro x hl;have hu:P.aOf f a∈cg P hs f:=List.mem_map.2 ⟨a,hl a (List.mem_cons_self ..),rfl⟩;rw[List.foldl_cons,List.foldl_cons,ih _ (by have:=rk_lt (n:=P.fs.length) hf hu (ha f hr);omega) (hr.trans (.one hu))]
     exact ihl _ fun n hn=>hl n (List.mem_cons_of_mem _ hn)
   unfold cellsTo;rw[e _ _ fun n hn=>List.mem_of_mem_take hn]
 exact key _ 0 (Nat.lt_succ_self _) (.refl 0)
theorem FactsOk.unique {hs' lps':List (List Int)} {tops':List Int} {live':List Bool} {ce' co':Int} (h:FactsOk P hs tops lps live ce co) (k:FactsOk P hs' tops' lps' live' ce' co'):hs=hs'∧tops=tops'∧lps=lps'∧live=live'∧ce=ce'∧co=co':=by
 have eh:=h.heights k;subst eh
 have et:tops=tops':=by
  refine List.ext_getElem (by rw[h.lt,k.lt]) fun f h1 h2=>?_
  have hf:f<P.fs.length:=by rw[←h.lt];exact h1
  have h3:=h.top f hf;have h4:=k.top f hf;rw[List.getD_eq_getElem?_getD (l:=tops),List.getElem?_eq_getElem h1] at h3;rw[List.getD_eq_getElem?_getD (l:=tops'),List.getElem?_eq_getElem h2] at h4;exact h3.unique h4
 subst et
 have el:lps=lps':=by
  refine List.ext_getElem (by rw[h.ll,k.ll]) fun f h1 h2=>?_
  have hf:f<P.fs.length:=by rw[←h.ll];exact h1
  have h3:=h.loops f hf;have h4:=k.loops f hf;rw[List.getD_eq_getElem?_getD,List.getElem?_eq_getElem h1] at h3;rw[List.getD_eq_getElem?_getD,List.getElem?_eq_getElem h2] at h4;exact h3.trans h4.symm
 subst el
 have ev:live=live':=by
  refine List.ext_getElem (by rw[h.lv,k.lv]) fun f h1 h2=>?_
  have h3:=h.live f;have h4:=k.live f;rw[List.getElem?_eq_getElem h1] at h3;rw[List.getElem?_eq_getElem h2] at h4;have e:=h3.trans h4.symm;cases hx:live[f]<;>cases hy:live'[f]<;>rw[hx,hy] at e<;>simp at e ⊢
 subst ev;refine ⟨rfl,rfl,rfl,rfl,?_,?_⟩
 ·rcases h.cells with ⟨h1,h2⟩|⟨h1,c,h2,h3⟩
  ·rcases k.cells with ⟨k1,k2⟩|⟨k1,-⟩
   ·rw[h2,k2]
   exact absurd k1 h1
  rcases k.cells with ⟨k1,k2⟩|⟨k1,c',k2,k3⟩
  ·exact absurd h1 k1
  rw[h3,k3];exact cells_one h.good h1 h2 k2
 rcases h.cost with ⟨h1,h2⟩|⟨h1,h1',h2⟩
 ·rcases k.cost with ⟨k1,k2⟩|⟨k1,k1',-⟩
  ·rw[h2,k2]
  exact absurd ⟨k1,k1'⟩ h1
 rcases k.cost with ⟨k1,k2⟩|⟨k1,k1',k2⟩
 ·exact absurd ⟨h1,h1'⟩ k1
 rw[h2,k2]
end
def codeA:List Ins:=[⟨3,3⟩,⟨3,4⟩,⟨21,0⟩,⟨18,0⟩]
def codeB:List Ins:=[⟨3,3⟩,⟨4,0⟩,⟨21,0⟩,⟨18,0⟩]
def prgA:Prg:=⟨0,[],[⟨0,0,1,codeA⟩]⟩
def prgB:Prg:=⟨0,[],[⟨0,0,1,codeB⟩]⟩
theorem runA:HRuns prgA 0 (h0L 4) (w0L 4) (.inl [0,1,2,1]):=
 .step (h':=[0,1,-1,-1]) (ws':=[false,true,false,false]) (n:=0) (i:=⟨3,3⟩) (x:=0) (b:=1) (by decide) (by decide) (by decide) (by kernel_rfl) (by kernel_rfl) (by kernel_rfl)
  (.step (h':=[0,1,2,-1]) (ws':=[false,false,true,false]) (n:=1) (i:=⟨3,4⟩) (x:=1) (b:=2) (by decide) (by decide) (by decide) (by kernel_rfl) (by kernel_rfl) (by kernel_rfl)
   (.step (h':=[0,1,2,1]) (ws':=[false,false,false,true]) (n:=2) (i:=⟨21,0⟩) (x:=2) (b:=1) (by decide) (by decide) (by decide) (by kernel_rfl) (by kernel_rfl) (by kernel_rfl)
    (.step (h':=[0,1,2,1]) (ws':=[false,false,false,false]) (n:=3) (i:=⟨18,0⟩) (x:=1) (b:=0) (by decide) (by decide) (by decide) (by kernel_rfl) (by kernel_rfl) (by kernel_rfl)
     (.done fun j hj=>by
      have:=List.mem_of_getElem? hj;simp at this))))
theorem runB:HRuns prgB 0 (h0L 4) (w0L 4) (.inr (134,2)):=
 .step (h':=[0,1,-1,-1]) (ws':=[false,true,false,false]) (n:=0) (i:=⟨3,3⟩) (x:=0) (b:=1) (by decide) (by decide) (by decide) (by kernel_rfl) (by kernel_rfl) (by kernel_rfl)
  (.step (h':=[0,1,0,-1]) (ws':=[false,false,true,false]) (n:=1) (i:=⟨4,0⟩) (x:=1) (b:=0) (by decide) (by decide) (by decide) (by kernel_rfl) (by kernel_rfl) (by kernel_rfl)
   (.bad (n:=2) (i:=⟨21,0⟩) (x:=0) (b:=0) (by decide) (by decide) (by decide) (by kernel_rfl) (by kernel_rfl) (by decide)))
theorem chkA:checkL prgA=0:=by kernel_rfl
theorem chkB:checkL prgB=0:=by kernel_rfl
theorem opsA:firstP prgA prgA.fs 0=none:=by kernel_rfl
theorem opsB:firstP prgB prgB.fs 0=none:=by kernel_rfl
theorem leadA:Lead prgA:=⟨chkA,by kernel_rfl,by kernel_rfl⟩
theorem leadB:Lead prgB:=⟨chkB,by kernel_rfl,by kernel_rfl⟩
theorem lenA:prgA.len 0=4:=by kernel_rfl
theorem lenB:prgB.len 0=4:=by kernel_rfl
theorem finA:HFin prgA 0 [0,1,2,1]:=runs_fin chkA (by rw[show ((0:Nat):Int)=0 from rfl,lenA];decide) (by rw[show ((0:Nat):Int)=0 from rfl,lenA];exact runA)
theorem bad_B {x:Int×Int×Int} (h:BadAt prgB x):x=(134,0,2):=
 h.unique (.inr (.inr (.inr ⟨leadB,opsB,0,2,134,by decide,fun g hg=>by omega,by rw[show ((0:Nat):Int)=0 from rfl,lenB];exact runB,by decide,rfl⟩)))
theorem no_ok_B {hs lps:List (List Int)} {tops:List Int} {live:List Bool} {ce co:Int} (h:FactsOk prgB hs tops lps live ce co):False:=
 h.noBad (.inr (.inr (.inr ⟨leadB,opsB,0,2,134,by decide,fun g hg=>by omega,by rw[show ((0:Nat):Int)=0 from rfl,lenB];exact runB,by decide,rfl⟩)))
theorem no_bad_A {x:Int×Int×Int} (h:BadAt prgA x):False:=by
 rcases h with ⟨h1,-⟩|⟨-,h2,-⟩|⟨-,h3⟩|⟨-,-,f,n,er,hf,-,hR,-,-⟩
 ·exact h1 chkA
 ·rcases h2 with h2|h2
  ·exact h2 leadA.args
  exact h2 leadA.results
 ·rw[opsA] at h3;cases h3
 have hf0:f=0:=by
  have:prgA.fs.length=1:=rfl;omega
 subst hf0;have:=fin_runs finA chkA (by rw[show ((0:Nat):Int)=0 from rfl,lenA];decide) hR
 cases this
theorem insA {f n:Nat} {i:Ins} (h:prgA.ins f n=some i):i∈codeA:=by
 obtain ⟨g,hg,hi⟩:=Prg.fn_of h;have hm:g∈prgA.fs:=List.mem_of_getElem? hg;have hg2:g=⟨0,0,1,codeA⟩:=by simpa [prgA] using hm
 rw[hg2] at hi;exact List.mem_of_getElem? hi
theorem callA (hs:List (List Int)) (f:Nat):callsN prgA hs f=[]:=by
 unfold callsN;rw[List.filter_eq_nil_iff];intro n _ h;unfold isCall at h;cases hi:prgA.ins f n with
 |none=>rw[hi] at h;cases h
 |some i=>
  rw[hi] at h;have hm:=insA hi;simp[codeA] at hm;rcases hm with rfl|rfl|rfl|rfl<;>simp at h
theorem cgA (hs:List (List Int)) (f:Nat):cg prgA hs f=[]:=by unfold cg;rw[callA];rfl
theorem goA {f n u:Nat} (h:u∈nxF prgA f n):u=n+1:=by
 unfold nxF nextL at h;cases hi:prgA.ins f n with
 |none=>rw[hi] at h;simp at h
 |some i=>
  rw[hi] at h;obtain ⟨x,hx,rfl⟩:=List.mem_map.1 h;have hx2:=(List.mem_filter.1 hx).1;have hm:=insA hi;simp only[codeA,List.mem_cons,List.not_mem_nil,or_false] at hm;rcases hm with rfl|rfl|rfl|rfl<;>simp[goesL] at hx2<;>omega
theorem reachA {f a b:Nat} (h:Reach (nxF prgA f) a b):a≤b:=by
 induction h with
 |refl=>exact Nat.le_refl _
 |step h1 _ ih=>have:=goA h1;omega
theorem acycA (hs:List (List Int)):Acyc prgA hs:=fun v _ ⟨u,hu,_⟩=>by rw[cgA] at hu;cases hu
theorem strA (hs:List (List Int)):Str prgA hs:=fun f _ n _ ⟨u,hu,hr⟩=>by
 have:=goA hu;have:=reachA hr;omega
theorem topA:TopF prgA 0 [0,1,2,1] 2:=by
 have t0:takesL prgA ((0:Nat):Int) ((0:Nat):Int)=(0,1):=by kernel_rfl
 have t1:takesL prgA ((0:Nat):Int) ((1:Nat):Int)=(0,1):=by kernel_rfl
 have t2:takesL prgA ((0:Nat):Int) ((2:Nat):Int)=(2,1):=by kernel_rfl
 have t3:takesL prgA ((0:Nat):Int) ((3:Nat):Int)=(1,0):=by kernel_rfl
 refine ⟨by decide,fun j x hx _=>?_,.inr ⟨2,2,rfl,by decide,.inl rfl⟩⟩
 match j,hx with
 |0,hx=>rw[t0];simp at hx;omega
 |1,hx=>rw[t1];simp at hx;omega
 |2,hx=>rw[t2];simp at hx;omega
 |3,hx=>rw[t3];simp at hx;omega
 |j+4,hx=>simp at hx
theorem costA:kcL prgA 0=4:=by kernel_rfl
theorem locA:prgA.locals 0=0:=by kernel_rfl
theorem ok_A {hs lps:List (List Int)} {tops:List Int} {live:List Bool} {ce co:Int} (h:FactsOk prgA hs tops lps live ce co):hs=[[0,1,2,1]]∧ce=3∧co=4:=by
 have hl:prgA.fs.length=1:=rfl
 have e1:hs=[[0,1,2,1]]:=by
  have h1:=h.lh;have h2:=(h.fin 0 (by decide)).unique finA chkA
  match hs,h1,h2 with
  |[a],_,h2=>simp at h2;rw[h2]
 subst e1
 have e2:tops=[2]:=by
  have h1:=h.lt;have h2:=(h.top 0 (by decide)).unique topA
  match tops,h1,h2 with
  |[a],_,h2=>simp at h2;rw[h2]
 subst e2;refine ⟨rfl,?_,?_⟩
 ·rcases h.cells with ⟨h1,-⟩|⟨-,c,h2,h3⟩
  ·exact absurd (acycA _) h1
  rw[h3,h2 0 (by decide) (.refl 0),callA]
  have e:=locA;simp only[Int.natCast_zero] at e ⊢;rw[e];rfl
 rcases h.cost with ⟨h1,-⟩|⟨-,-,h3⟩
 ·exact absurd ⟨acycA _,strA _⟩ h1
 rw[h3,costA];rfl
end
end Go.Proofs.Ytcmpmhlcfalbhaa
