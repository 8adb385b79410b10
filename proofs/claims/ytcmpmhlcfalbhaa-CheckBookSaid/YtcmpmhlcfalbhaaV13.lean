import Derived.Test.YtcmpmhlcfalbhaaV07
import Derived.Test.YtcmpmhlcfalbhaaV06
import Derived.Test.YtcmpmhlcfalbhaaV08
namespace Go.Proofs.Ytcmpmhlcfalbhaa
section
section
open Go.RowKit
attribute [local go_sem] rowVal
theorem ins_info:(Try.prog.info? 45).map (fun i=>(i.zero,i.size,i.bytes))=some (some (.agg #[.int .i64 0,.int .i64 0]),2,16):=by kernel_rfl
theorem eIns:Elem Try.prog 41 45 2 16:=elem_of Try.underlying41 ins_info rfl (by decide)
theorem ins_one (l:List Ins):∀u∈l.flatMap insCells,u.oneCell'=true:=by
 intro u hu;obtain ⟨x,-,hx⟩:=List.mem_flatMap.1 hu;simp only[insCells,List.mem_cons,List.not_mem_nil,or_false] at hx;rcases hx with rfl|rfl<;>rfl
end
section
open Go.RowKit
attribute [local go_sem] rowVal
end
section
open Go.RowKit
def insGood (i:Ins):Prop:=isOp i.op=true∧mayB (kindN i.op) i.a=true
theorem encFrom_ok:∀(l:List Ins) (xs ys:List UInt8),encFrom xs l=(ys,0)→ys=xs++l.flatMap insL∧∀i∈l,insGood i:=by
 intro l;induction l with
 |nil=>
  intro xs ys h;unfold encFrom at h;injection h with h1 h2
  subst h1;simp
 |cons i l ih=>
  intro xs ys h;unfold encFrom at h;split at h
  ·injection h with _ h2;exact absurd h2 (by decide)
  rename_i h1
  split at h
  ·injection h with _ h2;exact absurd h2 (by decide)
  rename_i h2
  obtain ⟨h3,h4⟩:=ih _ _ h;refine ⟨by rw[h3,List.flatMap_cons,List.append_assoc],fun j hj=>?_⟩
  rcases List.mem_cons.1 hj with rfl|hj
  ·exact ⟨by simpa using h1,by simpa using h2⟩
  exact h4 j hj
theorem encFrom_good:∀(l:List Ins) (xs:List UInt8),(∀i∈l,insGood i)→encFrom xs l=(xs++l.flatMap insL,0):=by
 intro l;induction l with
 |nil=>intro xs _;unfold encFrom;simp
 |cons i l ih=>
  intro xs h;obtain ⟨h1,h2⟩:=h i (List.mem_cons_self ..);unfold encFrom;rw[if_neg (by rw[h1];decide),if_neg (by rw[h2];decide),ih _ fun j hj=>h j (List.mem_cons_of_mem _ hj),List.flatMap_cons,List.append_assoc]
theorem encL_ok {l:List Ins} {ys:List UInt8} (h:encL l=(ys,0)):l.length≤4096∧ys=l.flatMap insL∧∀i∈l,insGood i:=by
 unfold encL at h;split at h
 ·injection h with _ h2;exact absurd h2 (by decide)
 obtain ⟨h1,h2⟩:=encFrom_ok _ _ _ h;exact ⟨by omega,by simpa using h1,h2⟩
theorem encL_good {l:List Ins} (hl:l.length≤4096) (h:∀i∈l,insGood i):encL l=(l.flatMap insL,0):=by
 unfold encL;rw[if_neg (by omega),encFrom_good _ _ h,List.nil_append]
end
end
section
open Go.RowKit
structure GoodF (f:Fun):Prop where
 bad:badF f=false
 enc:(encL f.code).2=0
theorem checkF_ok:∀l:List Fun,checkF l=0↔∀f∈l,GoodF f:=by
 intro l;induction l with
 |nil=>simp[checkF]
 |cons f l ih=>
  unfold checkF;cases hb:badF f with
  |true=>
   rw[if_pos rfl];constructor
   ·intro h;omega
   intro h;have:=(h f (List.mem_cons_self ..)).bad;rw[hb] at this;cases this
  |false=>
   rw[if_neg (by decide)]
   by_cases he:(encL f.code).2=0
   ·rw[if_pos he,ih];constructor
    ·intro h g hg;rcases List.mem_cons.1 hg with rfl|hg
     ·exact ⟨hb,he⟩
     exact h g hg
    exact fun h g hg=>h g (List.mem_cons_of_mem _ hg)
   rw[if_neg he];constructor
   ·intro h;exact absurd h he
   intro h;exact absurd (h f (List.mem_cons_self ..)).enc he
theorem checkL_ok (p:Prg):checkL p=0↔badH p=false∧∀f∈p.fs,GoodF f:=by
 unfold checkL;cases hb:badH p with
 |true=>
  rw[if_pos rfl];constructor
  ·intro h;omega
  intro h;exact absurd h.1 (by decide)
 |false=>
  rw[if_neg (by decide),checkF_ok]
  simp
end
end Go.Proofs.Ytcmpmhlcfalbhaa
