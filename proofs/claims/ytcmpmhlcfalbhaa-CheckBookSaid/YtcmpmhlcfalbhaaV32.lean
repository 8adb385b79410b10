import Derived.Test.YtcmpmhlcfalbhaaV26
import Derived.Test.YtcmpmhlcfalbhaaV22
import Derived.Test.YtcmpmhlcfalbhaaV31
import Derived.Deep.CutRange
namespace Go.Proofs.Ytcmpmhlcfalbhaa
section
def maxO (D:List Int) (xs:List Nat):Int:=xs.foldl (fun m u=>max m (D.getD u 0)) 0
theorem maxO_next {D:List Int} {xs:List Nat} {j x:Nat} (h:xs[j]?=some x):maxO D (xs.take (j+1))=max (maxO D (xs.take j)) (D.getD x 0):=by
 unfold maxO;rw[List.take_add_one,h,List.foldl_append];rfl
theorem maxO_eq {D:List Int} {c:Nat→Int} {xs:List Nat} (h:∀u∈xs,D[u]?=some (c u)):maxO D xs=xs.foldl (fun m u=>max m (c u)) 0:=by
 have key:∀(l:List Nat) (x:Int),(∀u∈l,D[u]?=some (c u))→l.foldl (fun m u=>max m (D.getD u 0)) x=l.foldl (fun m u=>max m (c u)) x:=by
  intro l;induction l with
  |nil=>intro x _;rfl
  |cons a l ih=>
   intro x hl;rw[List.foldl_cons,List.foldl_cons,List.getD_eq_getElem?_getD,hl a (List.mem_cons_self ..)];exact ih _ fun u hu=>hl u (List.mem_cons_of_mem _ hu)
 exact key _ _ h
def vC (P:Prg) (f:Nat):Int:=if kcL P f≤1099511627776 then kcL P f else -1
theorem vC_big {P:Prg} {f:Nat} (h:mostC≤kcL P f):vC P f= -1:=by
 have:mostC=1099511627777:=rfl;unfold vC;rw[if_neg (by omega)]
structure OutOk (P:Prg) (f N:Nat) (D:List Int):Prop where
 len:D.length=N
 ok:∀(i:Nat) x,D[i]?=some x→x= -1∨(Reach (nxF P f) 0 i∧x=pcL P f (kcL P) i∧x≤1099511627776)
def Stuck (P:Prg) (hs:List (List Int)) (f:Nat) (D:List Int) (i:Nat):Prop:=D[i]?≠some (-1)∨htAt hs f i= -1∨∃u∈nxF P f i,D[u]?=some (-1)
def nones (D:List Int):Nat:=D.countP (·= -1)
theorem OutOk.start (P:Prg) (f N:Nat):OutOk P f N (List.replicate N (-1)):=
 ⟨by simp,fun i x hx=> .inl (List.eq_of_mem_replicate (List.mem_of_getElem? hx))⟩
section
variable {P:Prg} {hs:List (List Int)} {f N:Nat} {D:List Int}
theorem nones_set {i:Nat} {v:Int} (hi:D[i]?=some (-1)) (hv:v≠ -1):nones (D.set i v)<nones D:=by
 have h1:=countP_set (·=(-1:Int)) D i (-1) v hi;simp only[hv,decide_true,if_true,decide_false,Bool.false_eq_true,if_false] at h1;unfold nones;omega
theorem OutOk.val (S:Strt P hs) (hg:Good P) (hf:Reach (cg P hs) 0 f) (H:OutOk P f N D) {i:Nat} (hr:Reach (nxF P f) 0 i) (hk:∀u∈nxF P f i,D[u]?≠some (-1)) (hN:P.len f=N):
  0≤maxO D (nxF P f i)∧maxO D (nxF P f i)≤1099511627776∧pcL P f (kcL P) i=min (1+callC P f (kcL P) i+maxO D (nxF P f i)) mostC:=by
 have h1:∀u∈nxF P f i,D[u]?=some (pcL P f (kcL P) u)∧pcL P f (kcL P) u≤1099511627776:=fun u hu=>by
  obtain ⟨x,hx⟩:∃x,D[u]?=some x:=⟨_,List.getElem?_eq_getElem (by rw[H.len, ←hN];exact nxF_lt hu)⟩
  rcases H.ok u x hx with e|⟨-,e,h2⟩
  ·rw[e] at hx;exact absurd hx (hk u hu)
  rw[←e];exact ⟨hx,h2⟩
 have h2:maxO D (nxF P f i)=costTo P f (pcL P f (kcL P)) i (nxF P f i).length:=by
  rw[maxO_eq fun u hu=>(h1 u hu).1];unfold costTo;rw[List.take_length]
 have h3:=costTo_bnd (P:=P) (f:=f) (n:=i) (show (0:Int)≤1099511627776 by decide) (fun u hu=>(h1 u hu).2) (nxF P f i).length
 rw[h2]
 exact ⟨h3.1,h3.2.1,pc_eq S hg hf hr (kcL P)⟩
theorem OutOk.big (S:Strt P hs) (hg:Good P) (hf:Reach (cg P hs) 0 f) (H:OutOk P f N D) {i:Nat} (hr:Reach (nxF P f) 0 i) (hk:∀u∈nxF P f i,D[u]?≠some (-1)) (hN:P.len f=N) (hb:1099511627776<1+callC P f (kcL P) i+maxO D (nxF P f i)):vC P f= -1:=by
 have hm:mostC=1099511627777:=rfl;obtain ⟨-,-,h3⟩:=H.val S hg hf hr hk hN;have h4:=pc_mono S hg hf (.refl 0) hr;rw[←kc_eq S hg hf] at h4;exact vC_big (by omega)
theorem OutOk.put (S:Strt P hs) (hg:Good P) (hf:Reach (cg P hs) 0 f) (H:OutOk P f N D) {i:Nat} (hr:Reach (nxF P f) 0 i) (hk:∀u∈nxF P f i,D[u]?≠some (-1)) (hN:P.len f=N) (hb: ¬ 1099511627776<1+callC P f (kcL P) i+maxO D (nxF P f i)):OutOk P f N (D.set i (1+callC P f (kcL P) i+maxO D (nxF P f i))):=by
 have hm:mostC=1099511627777:=rfl;obtain ⟨-,-,h3⟩:=H.val S hg hf hr hk hN;refine ⟨by rw[List.length_set];exact H.len,fun j x hx=>?_⟩
 rcases set_get hx with ⟨rfl,rfl⟩|⟨-,hx⟩
 ·exact .inr ⟨hr,by omega,by omega⟩
 exact H.ok j x hx
theorem OutOk.fin (S:Strt P hs) (hg:Good P) (hf:Reach (cg P hs) 0 f) (hfl:f<P.fs.length) (H:OutOk P f N D) (hN:P.len f=N) (hs':∀i,i<N→Stuck P hs f D i):D[0]?=some (vC P f):=by
 have hF:=S.fin f hfl;have h0:0<P.len f:=len_pos hg.chk hfl
 have key:∀(k i:Nat),Reach (nxF P f) 0 i→rk (nxF P f) (P.len f) i<k→D[i]?≠some (-1):=by
  intro k;induction k with
  |zero=>intro i _ h;omega
  |succ k ih=>
   intro i hr hk e;have hil:i<P.len f:=reach_nx_lt hr h0;rcases hs' i (by rw[←hN];exact hil) with h1|h1|⟨u,hu,h1⟩
   ·exact h1 e
   ·obtain ⟨x,hx,hx0⟩:=hF.reach hg.chk hr;unfold htAt at h1;rw[List.getD_eq_getElem?_getD,hx] at h1;dsimp only[Option.getD_some] at h1;omega
   exact ih u (hr.trans (.one hu)) (by have:=rk_lt hil hu (S.straight f hf i hr);omega) h1
 have h1:=key _ 0 (.refl 0) (Nat.lt_succ_self _);obtain ⟨x,hx⟩:∃x,D[0]?=some x:=⟨_,List.getElem?_eq_getElem (by rw[H.len, ←hN];exact h0)⟩
 rcases H.ok 0 x hx with e|⟨-,e,h2⟩
 ·rw[e] at hx;exact absurd hx h1
 rw[hx];congr 1
 unfold vC;rw[kc_eq S hg hf, ←e,if_pos h2]
end
end
section
open Go.RowKit
structure KnownPost (D:List Int) (xs:List Nat) (w:World) (e:Ending) (w':World):Prop where
 out:w=w'∧((e= .returned (.tuple #[.int .i64 (maxO D xs),.bool true])∧∀u∈xs,D[u]?≠some (-1))∨(e= .returned (.tuple #[.int .i64 0,.bool false])∧∃u∈xs,D[u]?=some (-1)))
set_option maxRecDepth 100000 in
set_option maxHeartbeats 4000000 in
theorem known_ref (D:List Int) (xs:List Nat) (A AL:Option Addr) (N c cl:Nat) (w:World) (hD:RV w A (D.map iv)) (hl:D.length=N) (hx:RV w AL ((ints xs).map iv)) (hb:∀u∈xs,u<N) (hN:N≤1000000) (hxl:xs.length≤1000000):
  Calls Try.prog 86 #[.slice A N c,.slice AL xs.length cl] w (KnownPost D xs w):=by
 have HD:=Lib.hid hD
 have HX:=Lib.hid hx
 have Hb:=Lib.hid hb
 have Hl:=Lib.hid hl
 clear hD hx hb hl
 go_enter Try.func86,Try.ntmps86
 go_wp2_with fail
 go_loopw [6,7] (fun nv iv' wr=>∃j:Nat,j≤xs.length∧iv'= .int .i64 (j:Int)∧nv= .int .i64 (maxO D (xs.take j))∧Hid (∀u∈xs.take j,D[u]?≠some (-1))∧w=wr) (fun _ i _=>xs.length-(intOf i).toNat)
 case atStart=>exact ⟨0,Nat.zero_le _,rfl,rfl,Lib.hid (fun u hu=>by cases hu),rfl⟩
 case round=>
  obtain ⟨j,hj,rfl,rfl,HK,hw⟩:=hrel;subst hw;rename World=>w;by_cases hlt:j<xs.length
  ·have g1:(j:Int)<(xs.length:Int):=by omega
   obtain ⟨x,hx⟩:∃x,xs[j]?=some x:=⟨_,List.getElem?_eq_getElem hlt⟩;have hxN:=Hb.out x (List.mem_of_getElem? hx);obtain ⟨b1,o1,rfl,hb1,hc1⟩:=HX.out.at_ (by rw[List.length_map,ints_len];omega)
   have c1:w.cell? ⟨b1,o1+j,none⟩=some (.int .i64 (x:Int)):=hc1 j _ (by rw[List.getElem?_map,List.getElem?_map,hx];rfl)
   obtain ⟨b2,o2,rfl,hb2,hc2⟩:=HD.out.at_ (by rw[List.length_map,Hl.out];omega)
   obtain ⟨y,hy⟩:∃y,D[x]?=some y:=⟨_,List.getElem?_eq_getElem (by rw[Hl.out];exact hxN)⟩
   have c2:w.cell? ⟨b2,o2+x,none⟩=some (.int .i64 y):=hc2 x _ (by rw[List.getElem?_map,hy];rfl)
   have gx:(x:Int)<(N:Int):=by omega
   have Hx:=Lib.hid (And.intro hx hy);clear hc1 hc2 hx hy;by_cases hy1:y= -1
   ·subst hy1;have HF:=Lib.hid (show KnownPost D xs w (.returned (.tuple #[.int .i64 0,.bool false])) w from ⟨rfl,.inr ⟨rfl,x,List.mem_of_getElem? Hx.out.1,Hx.out.2⟩⟩)
    go_wp2_with fail
    refine bodyPost_ret (v:=.tuple #[.int .i64 0,.bool false]) ?_ rfl HF.out;simp[results,Try.results86,go_sem]
   have hy2:(y== -1)=false:=by simpa using hy1
   have HK2:=Lib.hid (show ∀u∈xs.take (j+1),D[u]?≠some (-1) from fun u hu=>by
    rw[List.take_add_one,Hx.out.1] at hu;rcases List.mem_append.1 hu with hu|hu
    ·exact HK.out u hu
    rw[List.mem_singleton.1 hu,Hx.out.2];intro e;injection e with e;exact hy1 e)
   have hmx:maxO D (xs.take (j+1))=max (maxO D (xs.take j)) y:=by rw[maxO_next Hx.out.1,List.getD_eq_getElem?_getD,Hx.out.2];rfl
   obtain ⟨M,hM⟩:∃M,M=maxO D (xs.take j):=⟨_,rfl⟩;rw[←hM] at hmx ⊢;have Hmx:=Lib.hid hmx;clear hmx hM;by_cases hlt2:M<y
   ·have He:=Lib.hid (show maxO D (xs.take (j+1))=y from by rw[Hmx.out];omega)
    go_wp2_with fail
    exact ⟨⟨j+1,by omega,by go_num,by rw[He.out],HK2,by first|trivial|rfl⟩,by simp[intOf];omega⟩
   have He:=Lib.hid (show maxO D (xs.take (j+1))=M from by rw[Hmx.out];omega)
   go_wp2_with fail
   exact ⟨⟨j+1,by omega,by go_num,by rw[He.out],HK2,by first|trivial|rfl⟩,by simp[intOf];omega⟩
  obtain rfl:j=xs.length:=by omega
  have hK:=HK.out;rw[List.take_length] at hK ⊢;have HF:=Lib.hid (show KnownPost D xs w (.returned (.tuple #[.int .i64 (maxO D xs),.bool true])) w from ⟨rfl,.inl ⟨rfl,hK⟩⟩)
  obtain ⟨M,hM⟩:∃M,M=maxO D xs:=⟨_,rfl⟩;rw[←hM] at HF ⊢;clear hK HK hM;go_wp2_with fail
  refine bodyPost_ret (v:=.tuple #[.int .i64 M,.bool true]) ?_ rfl HF.out;simp[results,Try.results86,go_sem]
end
end Go.Proofs.Ytcmpmhlcfalbhaa
