import Derived.Test.YtcmpmhlcfalbhaaV16
import Derived.Test.YtcmpmhlcfalbhaaV14
import Derived.Test.YtcmpmhlcfalbhaaV08
import Derived.Test.YtcmpmhlcfalbhaaV11
import Derived.Test.YtcmpmhlcfalbhaaV10
import Derived.Deep.CutRange
namespace Go.Proofs.Ytcmpmhlcfalbhaa
section
open Go.RowKit
structure LA where
 bM:Nat
 bN:Nat
 bB:Nat
 bO:Nat
 bR:Nat
 bW:Nat
 gN:Nat
 gB:Nat
 gO:Nat
 gI:Nat
def LA.all (L:LA):List Nat:=[L.bM,L.bN,L.bB,L.bO,L.bR,L.bW,L.gN,L.gB,L.gO,L.gI]
structure LSep (L:LA) (b0 b1:Nat):Prop where
 bM_bN:L.bM≠L.bN
 bM_bB:L.bM≠L.bB
 bM_bO:L.bM≠L.bO
 bM_bR:L.bM≠L.bR
 bM_bW:L.bM≠L.bW
 bM_gN:L.bM≠L.gN
 bM_gB:L.bM≠L.gB
 bM_gO:L.bM≠L.gO
 bM_gI:L.bM≠L.gI
 bN_bB:L.bN≠L.bB
 bN_bO:L.bN≠L.bO
 bN_bR:L.bN≠L.bR
 bN_bW:L.bN≠L.bW
 bN_gN:L.bN≠L.gN
 bN_gB:L.bN≠L.gB
 bN_gO:L.bN≠L.gO
 bN_gI:L.bN≠L.gI
 bB_bO:L.bB≠L.bO
 bB_bR:L.bB≠L.bR
 bB_bW:L.bB≠L.bW
 bB_gN:L.bB≠L.gN
 bB_gB:L.bB≠L.gB
 bB_gO:L.bB≠L.gO
 bB_gI:L.bB≠L.gI
 bO_bR:L.bO≠L.bR
 bO_bW:L.bO≠L.bW
 bO_gN:L.bO≠L.gN
 bO_gB:L.bO≠L.gB
 bO_gO:L.bO≠L.gO
 bO_gI:L.bO≠L.gI
 bR_bW:L.bR≠L.bW
 bR_gN:L.bR≠L.gN
 bR_gB:L.bR≠L.gB
 bR_gO:L.bR≠L.gO
 bR_gI:L.bR≠L.gI
 bW_gN:L.bW≠L.gN
 bW_gB:L.bW≠L.gB
 bW_gO:L.bW≠L.gO
 bW_gI:L.bW≠L.gI
 gN_gB:L.gN≠L.gB
 gN_gO:L.gN≠L.gO
 gN_gI:L.gN≠L.gI
 gB_gO:L.gB≠L.gO
 gB_gI:L.gB≠L.gI
 gO_gI:L.gO≠L.gI
 l_bM:b0≤L.bM∧L.bM<b1
 l_bN:b0≤L.bN∧L.bN<b1
 l_bB:b0≤L.bB∧L.bB<b1
 l_bO:b0≤L.bO∧L.bO<b1
 l_bR:b0≤L.bR∧L.bR<b1
 l_bW:b0≤L.bW∧L.bW<b1
 l_gN:b0≤L.gN∧L.gN<b1
 l_gB:b0≤L.gB∧L.gB<b1
 l_gO:b0≤L.gO∧L.gO<b1
 l_gI:b0≤L.gI∧L.gI<b1
def wayC (x:Int×Int):List Value:=[.int .i64 x.1,.int .i64 x.2]
abbrev OwnW (w:World) (base:Nat) (A:Option Addr) (n c:Nat) (l:List (Int×Int)):Prop:=Own w base 115 2 A n c (l.flatMap wayC)
theorem wayC_len (l:List (Int×Int)):(l.flatMap wayC).length=l.length*2:=by
 induction l with
 |nil=>rfl
 |cons x l ih=>rw[List.flatMap_cons,List.length_append,ih,List.length_cons];simp[wayC];omega
theorem wayC_get (l:List (Int×Int)) (k j:Nat) (hk:k<l.length) (hj:j<2):(l.flatMap wayC)[k*2+j]?=(wayC l[k])[j]?:=by
 induction l generalizing k with
 |nil=>cases hk
 |cons x l ih=>
  rw[List.flatMap_cons];cases k with
  |zero=>
   rw[Nat.zero_mul,Nat.zero_add,List.getElem?_append_left (by simp[wayC];omega)]
   rfl
  |succ k=>
   rw[List.getElem?_append_right (by simp[wayC];omega),show (k+1)*2+j-(wayC x).length=k*2+j from by simp[wayC];omega]
   exact ih k (by simpa using hk)
theorem place_info:(Try.prog.info? 115).map (fun i=>(i.zero,i.size,i.bytes))=some (some (.agg #[.int .i64 0,.int .i64 0]),2,16):=by kernel_rfl
theorem ePlace:Elem Try.prog 113 115 2 16:=elem_of Try.underlying113 place_info rfl (by decide)
theorem Own.cut {w:World} {base size n c:Nat} {e:TypeId} {A:Option Addr} {vs:List Value} (h:Own w base e size A n c vs) (m:Nat) (hm:m≤n) (hA:A≠none):Own w base e size A m c (vs.take (m*size)):=by
 obtain ⟨hl,h2⟩:=h;rcases h2 with ⟨hv,h0⟩|⟨g,cap,cur,hv,hg,hh,hnc,hcm,hcs,htake⟩
 ·injection hv with h1;exact absurd h1 hA
 have hms:m*size≤n*size:=Nat.mul_le_mul_right _ hm;refine ⟨by rw[List.length_take,hl];omega,.inr ⟨g,cap,cur,?_,hg,hh,by omega,hcm,hcs,?_⟩⟩
 ·injection hv with h1 h2 h3
  rw[h1,h3]
 rw[←htake,List.take_take];congr 1
 omega
structure LMem (w:World) (L:LA) (b1 N:Nat) (met:Int) (num back:List Int) (on inn:List Bool) (row:List Int) (way:List (Int×Int)):Prop where
 met:Blk w L.bM 3 #[.int .i64 met]
 vn:Blk w L.bN 29 #[.slice (some ⟨L.gN,0,none⟩) N N]
 vb:Blk w L.bB 29 #[.slice (some ⟨L.gB,0,none⟩) N N]
 vo:Blk w L.bO 30 #[.slice (some ⟨L.gO,0,none⟩) N N]
 num:OwnI w 0 (some ⟨L.gN,0,none⟩) N N num
 back:OwnI w 0 (some ⟨L.gB,0,none⟩) N N back
 on:OwnL w 0 (some ⟨L.gO,0,none⟩) N N on
 inn:OwnL w 0 (some ⟨L.gI,0,none⟩) N N inn
 row:∃A c,Blk w L.bR 29 #[.slice A row.length c]∧OwnI w b1 A row.length c row
 way:∃A c,Blk w L.bW 113 #[.slice A way.length c]∧OwnW w b1 A way.length c way
theorem LMem.putMet {w:World} {L:LA} {b0 b1 N:Nat} {met:Int} {num back:List Int} {on inn:List Bool} {row:List Int} {way:List (Int×Int)} (h:LMem w L b1 N met num back on inn row way) (hs:LSep L b0 b1) (m:Int):LMem (w.setCell ⟨L.bM,0,none⟩ (.int .i64 m)) L b1 N m num back on inn row way:=
 ⟨h.met.set_ 0 _,
  h.vn.far (p:=⟨L.bM,0,none⟩) (hs.bM_bN).symm _,
  h.vb.far (p:=⟨L.bM,0,none⟩) (hs.bM_bB).symm _,
  h.vo.far (p:=⟨L.bM,0,none⟩) (hs.bM_bO).symm _,
  Own.fars h.num (fun e=>by injection e with e;exact (hs.bM_gN).symm e) _,
  Own.fars h.back (fun e=>by injection e with e;exact (hs.bM_gB).symm e) _,
  Own.fars h.on (fun e=>by injection e with e;exact (hs.bM_gO).symm e) _,
  Own.fars h.inn (fun e=>by injection e with e;exact (hs.bM_gI).symm e) _,
  (by obtain ⟨A,c,k1,k2⟩:=h.row;exact ⟨A,c,k1.far (p:=⟨L.bM,0,none⟩) (hs.bM_bR).symm _,Own.fars k2 (fun e=>by have:=(Own.row k2 _ e).1;have:=hs.l_bM.2;omega) _⟩),
  (by obtain ⟨A,c,k1,k2⟩:=h.way;exact ⟨A,c,k1.far (p:=⟨L.bM,0,none⟩) (hs.bM_bW).symm _,Own.fars k2 (fun e=>by have:=(Own.row k2 _ e).1;have:=hs.l_bM.2;omega) _⟩)⟩
theorem LMem.putNum {w:World} {L:LA} {b0 b1 N:Nat} {met:Int} {num back:List Int} {on inn:List Bool} {row:List Int} {way:List (Int×Int)} (h:LMem w L b1 N met num back on inn row way) (hs:LSep L b0 b1) (j:Nat) (x:Int):LMem (w.setCell ⟨L.gN,j,none⟩ (.int .i64 x)) L b1 N met (num.set j x) back on inn row way:=
 ⟨h.met.far (p:=⟨L.gN,j,none⟩) hs.bM_gN _,
  h.vn.far (p:=⟨L.gN,j,none⟩) hs.bN_gN _,
  h.vb.far (p:=⟨L.gN,j,none⟩) hs.bB_gN _,
  h.vo.far (p:=⟨L.gN,j,none⟩) hs.bO_gN _,
  OwnI.put h.num j x,
  Own.fars h.back (fun e=>by injection e with e;exact (hs.gN_gB).symm e) _,
  Own.fars h.on (fun e=>by injection e with e;exact (hs.gN_gO).symm e) _,
  Own.fars h.inn (fun e=>by injection e with e;exact (hs.gN_gI).symm e) _,
  (by obtain ⟨A,c,k1,k2⟩:=h.row;exact ⟨A,c,k1.far (p:=⟨L.gN,j,none⟩) hs.bR_gN _,Own.fars k2 (fun e=>by have:=(Own.row k2 _ e).1;have:=hs.l_gN.2;omega) _⟩),
  (by obtain ⟨A,c,k1,k2⟩:=h.way;exact ⟨A,c,k1.far (p:=⟨L.gN,j,none⟩) hs.bW_gN _,Own.fars k2 (fun e=>by have:=(Own.row k2 _ e).1;have:=hs.l_gN.2;omega) _⟩)⟩
theorem LMem.putBack {w:World} {L:LA} {b0 b1 N:Nat} {met:Int} {num back:List Int} {on inn:List Bool} {row:List Int} {way:List (Int×Int)} (h:LMem w L b1 N met num back on inn row way) (hs:LSep L b0 b1) (j:Nat) (x:Int):LMem (w.setCell ⟨L.gB,j,none⟩ (.int .i64 x)) L b1 N met num (back.set j x) on inn row way:=
 ⟨h.met.far (p:=⟨L.gB,j,none⟩) hs.bM_gB _,
  h.vn.far (p:=⟨L.gB,j,none⟩) hs.bN_gB _,
  h.vb.far (p:=⟨L.gB,j,none⟩) hs.bB_gB _,
  h.vo.far (p:=⟨L.gB,j,none⟩) hs.bO_gB _,
  Own.fars h.num (fun e=>by injection e with e;exact hs.gN_gB e) _,
  OwnI.put h.back j x,
  Own.fars h.on (fun e=>by injection e with e;exact (hs.gB_gO).symm e) _,
  Own.fars h.inn (fun e=>by injection e with e;exact (hs.gB_gI).symm e) _,
  (by obtain ⟨A,c,k1,k2⟩:=h.row;exact ⟨A,c,k1.far (p:=⟨L.gB,j,none⟩) hs.bR_gB _,Own.fars k2 (fun e=>by have:=(Own.row k2 _ e).1;have:=hs.l_gB.2;omega) _⟩),
  (by obtain ⟨A,c,k1,k2⟩:=h.way;exact ⟨A,c,k1.far (p:=⟨L.gB,j,none⟩) hs.bW_gB _,Own.fars k2 (fun e=>by have:=(Own.row k2 _ e).1;have:=hs.l_gB.2;omega) _⟩)⟩
theorem LMem.putOn {w:World} {L:LA} {b0 b1 N:Nat} {met:Int} {num back:List Int} {on inn:List Bool} {row:List Int} {way:List (Int×Int)} (h:LMem w L b1 N met num back on inn row way) (hs:LSep L b0 b1) (j:Nat) (x:Bool):LMem (w.setCell ⟨L.gO,j,none⟩ (.bool x)) L b1 N met num back (on.set j x) inn row way:=
 ⟨h.met.far (p:=⟨L.gO,j,none⟩) hs.bM_gO _,
  h.vn.far (p:=⟨L.gO,j,none⟩) hs.bN_gO _,
  h.vb.far (p:=⟨L.gO,j,none⟩) hs.bB_gO _,
  h.vo.far (p:=⟨L.gO,j,none⟩) hs.bO_gO _,
  Own.fars h.num (fun e=>by injection e with e;exact hs.gN_gO e) _,
  Own.fars h.back (fun e=>by injection e with e;exact hs.gB_gO e) _,
  OwnL.put h.on j x,
  Own.fars h.inn (fun e=>by injection e with e;exact (hs.gO_gI).symm e) _,
  (by obtain ⟨A,c,k1,k2⟩:=h.row;exact ⟨A,c,k1.far (p:=⟨L.gO,j,none⟩) hs.bR_gO _,Own.fars k2 (fun e=>by have:=(Own.row k2 _ e).1;have:=hs.l_gO.2;omega) _⟩),
  (by obtain ⟨A,c,k1,k2⟩:=h.way;exact ⟨A,c,k1.far (p:=⟨L.gO,j,none⟩) hs.bW_gO _,Own.fars k2 (fun e=>by have:=(Own.row k2 _ e).1;have:=hs.l_gO.2;omega) _⟩)⟩
theorem LMem.putInn {w:World} {L:LA} {b0 b1 N:Nat} {met:Int} {num back:List Int} {on inn:List Bool} {row:List Int} {way:List (Int×Int)} (h:LMem w L b1 N met num back on inn row way) (hs:LSep L b0 b1) (j:Nat) (x:Bool):LMem (w.setCell ⟨L.gI,j,none⟩ (.bool x)) L b1 N met num back on (inn.set j x) row way:=
 ⟨h.met.far (p:=⟨L.gI,j,none⟩) hs.bM_gI _,
  h.vn.far (p:=⟨L.gI,j,none⟩) hs.bN_gI _,
  h.vb.far (p:=⟨L.gI,j,none⟩) hs.bB_gI _,
  h.vo.far (p:=⟨L.gI,j,none⟩) hs.bO_gI _,
  Own.fars h.num (fun e=>by injection e with e;exact hs.gN_gI e) _,
  Own.fars h.back (fun e=>by injection e with e;exact hs.gB_gI e) _,
  Own.fars h.on (fun e=>by injection e with e;exact hs.gO_gI e) _,
  OwnL.put h.inn j x,
  (by obtain ⟨A,c,k1,k2⟩:=h.row;exact ⟨A,c,k1.far (p:=⟨L.gI,j,none⟩) hs.bR_gI _,Own.fars k2 (fun e=>by have:=(Own.row k2 _ e).1;have:=hs.l_gI.2;omega) _⟩),
  (by obtain ⟨A,c,k1,k2⟩:=h.way;exact ⟨A,c,k1.far (p:=⟨L.gI,j,none⟩) hs.bW_gI _,Own.fars k2 (fun e=>by have:=(Own.row k2 _ e).1;have:=hs.l_gI.2;omega) _⟩)⟩
theorem LMem.putRow {w:World} {L:LA} {b0 b1 N:Nat} {met:Int} {num back:List Int} {on inn:List Bool} {row:List Int} {way:List (Int×Int)} (h:LMem w L b1 N met num back on inn row way) (hs:LSep L b0 b1) {A:Option Addr} {n c:Nat} {row':List Int} (hn:n=row'.length) (ho:OwnI w b1 A n c row'):LMem (w.setCell ⟨L.bR,0,none⟩ (.slice A n c)) L b1 N met num back on inn row' way:=
 ⟨h.met.far (p:=⟨L.bR,0,none⟩) hs.bM_bR _,
  h.vn.far (p:=⟨L.bR,0,none⟩) hs.bN_bR _,
  h.vb.far (p:=⟨L.bR,0,none⟩) hs.bB_bR _,
  h.vo.far (p:=⟨L.bR,0,none⟩) hs.bO_bR _,
  Own.fars h.num (fun e=>by injection e with e;exact (hs.bR_gN).symm e) _,
  Own.fars h.back (fun e=>by injection e with e;exact (hs.bR_gB).symm e) _,
  Own.fars h.on (fun e=>by injection e with e;exact (hs.bR_gO).symm e) _,
  Own.fars h.inn (fun e=>by injection e with e;exact (hs.bR_gI).symm e) _,
  ⟨A,c,by rw[←hn];obtain ⟨A1,c1,k1,-⟩:=h.row;exact k1.set_ 0 _,by rw[←hn];exact Own.fars ho (fun e=>by have:=(Own.row ho _ e).1;have:=hs.l_bR.2;omega) _⟩,
  (by obtain ⟨A,c,k1,k2⟩:=h.way;exact ⟨A,c,k1.far (p:=⟨L.bR,0,none⟩) (hs.bR_bW).symm _,Own.fars k2 (fun e=>by have:=(Own.row k2 _ e).1;have:=hs.l_bR.2;omega) _⟩)⟩
theorem LMem.putWay {w:World} {L:LA} {b0 b1 N:Nat} {met:Int} {num back:List Int} {on inn:List Bool} {row:List Int} {way:List (Int×Int)} (h:LMem w L b1 N met num back on inn row way) (hs:LSep L b0 b1) {A:Option Addr} {n c:Nat} {way':List (Int×Int)} (hn:n=way'.length) (ho:OwnW w b1 A n c way'):LMem (w.setCell ⟨L.bW,0,none⟩ (.slice A n c)) L b1 N met num back on inn row way':=
 ⟨h.met.far (p:=⟨L.bW,0,none⟩) hs.bM_bW _,
  h.vn.far (p:=⟨L.bW,0,none⟩) hs.bN_bW _,
  h.vb.far (p:=⟨L.bW,0,none⟩) hs.bB_bW _,
  h.vo.far (p:=⟨L.bW,0,none⟩) hs.bO_bW _,
  Own.fars h.num (fun e=>by injection e with e;exact (hs.bW_gN).symm e) _,
  Own.fars h.back (fun e=>by injection e with e;exact (hs.bW_gB).symm e) _,
  Own.fars h.on (fun e=>by injection e with e;exact (hs.bW_gO).symm e) _,
  Own.fars h.inn (fun e=>by injection e with e;exact (hs.bW_gI).symm e) _,
  (by obtain ⟨A,c,k1,k2⟩:=h.row;exact ⟨A,c,k1.far (p:=⟨L.bW,0,none⟩) hs.bR_bW _,Own.fars k2 (fun e=>by have:=(Own.row k2 _ e).1;have:=hs.l_bW.2;omega) _⟩),
  ⟨A,c,by rw[←hn];obtain ⟨A1,c1,k1,-⟩:=h.way;exact k1.set_ 0 _,by rw[←hn];exact Own.fars ho (fun e=>by have:=(Own.row ho _ e).1;have:=hs.l_bW.2;omega) _⟩⟩
theorem LMem.below {w:World} {L:LA} {b1 N:Nat} {met:Int} {num back:List Int} {on inn:List Bool} {row:List Int} {way:List (Int×Int)} {w':World} (h:LMem w L b1 N met num back on inn row way) (hb:Below w.heap.size w w'):LMem w' L b1 N met num back on inn row way:=
 ⟨h.met.below hb h.met.lt,h.vn.below hb h.vn.lt,h.vb.below hb h.vb.lt,h.vo.below hb h.vo.lt,Own.below h.num hb (Nat.le_refl _),Own.below h.back hb (Nat.le_refl _),Own.below h.on hb (Nat.le_refl _),Own.below h.inn hb (Nat.le_refl _),
  (by obtain ⟨A,c,k1,k2⟩:=h.row;exact ⟨A,c,k1.below hb k1.lt,Own.below k2 hb (Nat.le_refl _)⟩),(by obtain ⟨A,c,k1,k2⟩:=h.way;exact ⟨A,c,k1.below hb k1.lt,Own.below k2 hb (Nat.le_refl _)⟩)⟩
theorem LMem.turnRow {w:World} {L:LA} {b0 b1 N:Nat} {met:Int} {num back:List Int} {on inn:List Bool} {row:List Int} {way:List (Int×Int)} {w':World} (h:LMem w L b1 N met num back on inn row way) (hs:LSep L b0 b1) {A A2:Option Addr} {c c2 n2:Nat} (ho:OwnI w b1 A row.length c row) (hO:Only (fun b=>A.map (·.block)=some b) w w')
  {row':List Int} (hn:n2=row'.length) (hr:OwnI w' b1 A2 n2 c2 row'):LMem (w'.setCell ⟨L.bR,0,none⟩ (.slice A2 n2 c2)) L b1 N met num back on inn row' way:=by
 have key:∀b,b<b1→¬ A.map (·.block)=some b:=fun b hb e=>by have:=(Own.row ho b e).1;omega
 obtain ⟨Aw,cw,m1,m2⟩:=h.way
 obtain ⟨A0,c0,m3,-⟩:=h.row
 subst hn
 refine ⟨(h.met.only hO (key _ hs.l_bM.2)).far (p:=⟨L.bR,0,none⟩) hs.bM_bR _,(h.vn.only hO (key _ hs.l_bN.2)).far (p:=⟨L.bR,0,none⟩) hs.bN_bR _,(h.vb.only hO (key _ hs.l_bB.2)).far (p:=⟨L.bR,0,none⟩) hs.bB_bR _,(h.vo.only hO (key _ hs.l_bO.2)).far (p:=⟨L.bR,0,none⟩) hs.bO_bR _,
  Own.fars (Own.only h.num hO (fun b o e=>by injection e with e;injection e with e;exact key b (by have:=hs.l_gN.2;omega))) (fun e=>by injection e with e;exact hs.bR_gN e.symm) _,
  Own.fars (Own.only h.back hO (fun b o e=>by injection e with e;injection e with e;exact key b (by have:=hs.l_gB.2;omega))) (fun e=>by injection e with e;exact hs.bR_gB e.symm) _,
  Own.fars (Own.only h.on hO (fun b o e=>by injection e with e;injection e with e;exact key b (by have:=hs.l_gO.2;omega))) (fun e=>by injection e with e;exact hs.bR_gO e.symm) _,
  Own.fars (Own.only h.inn hO (fun b o e=>by injection e with e;injection e with e;exact key b (by have:=hs.l_gI.2;omega))) (fun e=>by injection e with e;exact hs.bR_gI e.symm) _,
  ⟨A2,c2,(m3.only hO (key _ hs.l_bR.2)).set_ 0 _,Own.fars hr (fun e=>by have:=(Own.row hr _ e).1;have:=hs.l_bR.2;omega) _⟩,
  ⟨Aw,cw,(m1.only hO (key _ hs.l_bW.2)).far (p:=⟨L.bR,0,none⟩) hs.bR_bW.symm _,Own.fars (Own.only m2 hO fun b o e e2=>own_ne m2 ho (by decide) b (by rw[e];rfl) e2) (fun e=>by have:=(Own.row m2 _ e).1;have:=hs.l_bR.2;omega) _⟩⟩
theorem LMem.turnWay {w:World} {L:LA} {b0 b1 N:Nat} {met:Int} {num back:List Int} {on inn:List Bool} {row:List Int} {way:List (Int×Int)} {w':World} (h:LMem w L b1 N met num back on inn row way) (hs:LSep L b0 b1) {A A2:Option Addr} {c c2 n2:Nat} (ho:OwnW w b1 A way.length c way) (hO:Only (fun b=>A.map (·.block)=some b) w w')
  {way':List (Int×Int)} (hn:n2=way'.length) (hr:OwnW w' b1 A2 n2 c2 way'):LMem (w'.setCell ⟨L.bW,0,none⟩ (.slice A2 n2 c2)) L b1 N met num back on inn row way':=by
 have key:∀b,b<b1→¬ A.map (·.block)=some b:=fun b hb e=>by have:=(Own.row ho b e).1;omega
 obtain ⟨Aw,cw,m1,m2⟩:=h.row
 obtain ⟨A0,c0,m3,-⟩:=h.way
 subst hn
 refine ⟨(h.met.only hO (key _ hs.l_bM.2)).far (p:=⟨L.bW,0,none⟩) hs.bM_bW _,(h.vn.only hO (key _ hs.l_bN.2)).far (p:=⟨L.bW,0,none⟩) hs.bN_bW _,(h.vb.only hO (key _ hs.l_bB.2)).far (p:=⟨L.bW,0,none⟩) hs.bB_bW _,(h.vo.only hO (key _ hs.l_bO.2)).far (p:=⟨L.bW,0,none⟩) hs.bO_bW _,
  Own.fars (Own.only h.num hO (fun b o e=>by injection e with e;injection e with e;exact key b (by have:=hs.l_gN.2;omega))) (fun e=>by injection e with e;exact hs.bW_gN e.symm) _,
  Own.fars (Own.only h.back hO (fun b o e=>by injection e with e;injection e with e;exact key b (by have:=hs.l_gB.2;omega))) (fun e=>by injection e with e;exact hs.bW_gB e.symm) _,
  Own.fars (Own.only h.on hO (fun b o e=>by injection e with e;injection e with e;exact key b (by have:=hs.l_gO.2;omega))) (fun e=>by injection e with e;exact hs.bW_gO e.symm) _,
  Own.fars (Own.only h.inn hO (fun b o e=>by injection e with e;injection e with e;exact key b (by have:=hs.l_gI.2;omega))) (fun e=>by injection e with e;exact hs.bW_gI e.symm) _,
  ⟨Aw,cw,(m1.only hO (key _ hs.l_bR.2)).far (p:=⟨L.bW,0,none⟩) hs.bR_bW _,Own.fars (Own.only m2 hO fun b o e e2=>own_ne m2 ho (by decide) b (by rw[e];rfl) e2) (fun e=>by have:=(Own.row m2 _ e).1;have:=hs.l_bW.2;omega) _⟩,
  ⟨A2,c2,(m3.only hO (key _ hs.l_bW.2)).set_ 0 _,Own.fars hr (fun e=>by have:=(Own.row hr _ e).1;have:=hs.l_bW.2;omega) _⟩⟩
end
section
open Go.RowKit
def nxI (P:Prg) (f:Nat) (h:List Int) (n:Nat):List Int:=if h.getD n (-1)<0 then [] else nextL P f n
set_option maxRecDepth 100000 in
theorem nextC_any (p:PrgM) (f n:Nat) (h:List Int) (A:Option Addr) (c g5 g3 g4:Nat) (w:World) (hp:PrgAt w p) (h5:Blk w g5 29 #[.slice A h.length c]) (h3:Blk w g3 26 #[.int .i64 p.mem,.slice p.AD p.data.length p.cD,.slice p.AF p.fs.length p.cF])
  (h4:Blk w g4 3 #[.int .i64 (f:Int)]) (hr:RV w A (h.map iv)) (hn:n<h.length):
  Calls Try.prog 63 #[.int .i64 (n:Int),.pointer (some ⟨g5,0,none⟩),.pointer (some ⟨g3,0,none⟩),.pointer (some ⟨g4,0,none⟩)] w (IntsPost w (nxI p.plain f h n)):=by
 obtain ⟨b,off,rfl,hb,hc⟩:=hr.at_ (by rw[List.length_map];omega)
 have c0:=hc n (.int .i64 h[n]) (by rw[List.getElem?_map,List.getElem?_eq_getElem hn];rfl)
 have hget:h.getD n (-1)=h[n]:=by rw[List.getD_eq_getElem?_getD,List.getElem?_eq_getElem hn];rfl
 have x0:w.cell? ⟨g5,0,none⟩=some (.slice (some ⟨b,off,none⟩) h.length c):=h5.cell 0
 have x1:w.cell? ⟨g3,0,none⟩=some (.int .i64 p.mem):=h3.cell 0
 have x2:w.cell? ⟨g3,1,none⟩=some (.slice p.AD p.data.length p.cD):=h3.cell 1
 have x3:w.cell? ⟨g3,2,none⟩=some (.slice p.AF p.fs.length p.cF):=h3.cell 2
 have x4:w.cell? ⟨g4,0,none⟩=some (.int .i64 (f:Int)):=h4.cell 0
 have l5:=h5.lt
 have l3:=h3.lt
 have l4:=h4.lt
 have hn2:(n:Int)<(h.length:Int):=by omega
 obtain ⟨R,hR⟩:∃R,R=nxI p.plain f h n:=⟨_,rfl⟩
 rw[←hR]
 unfold nxI at hR
 rw[hget] at hR
 have Hnx:=Lib.hid (next_any p f n w hp)
 generalize h[n]=x at*
 clear hp h5 h3 h4 hc hget hr
 by_cases hx:x<0
 ·rw[if_pos hx] at hR;have HR:=Lib.hid hR;clear hR;go_enter Try.func63,Try.ntmps63
  go_wp2_with fail
  go_ret
  rw[HR.out];exact intsPost_nil (Below.refl _ _)
 ·rw[if_neg hx] at hR;have HR:=Lib.hid hR;clear hR;go_enter Try.func63,Try.ntmps63
  go_wp2_with fail
  refine Hnx.out.mono ?_;rw[←HR.out];rintro e w2 ⟨A2,c2,rfl,ho,hb2⟩;have HF:=Lib.hid (show IntsPost w R (.returned (.slice A2 R.length c2)) w2 from ⟨A2,c2,rfl,ho,hb2⟩)
  clear ho hb2;go_wp2_with fail
  go_ret
  exact HF.out
theorem wpList_pushW {ops:Array Oper} {rest:List Oper} {o:Oper} {a:Act} {Q:Exit→Act→World→Prop} (hgd:o.guard=none) (s x:Operand)
  (ho:o.op= .call {callee:=.builtin .append,args:=#[s,x],argTypes:=#[113,113]})
  {w:World} {base n c:Nat} {A:Option Addr} {way:List (Int×Int)} {u v:Int} (hs:a.eval s= .slice A n c) (hown:OwnW w base A n c way) (hwn:way.length=n)
  (hx:a.eval x= .slice (some ⟨w.heap.size,0,none⟩) 1 1) (h63:n≤1000000) (hbase:base≤w.heap.size)
  (h:∀A2 c2 w',OwnW w' base A2 (n+1) c2 (way++[(u,v)])→Only (fun b=>A.map (·.block)=some b) w w'→(∀g,A=some ⟨g,0,none⟩→∀j z,(way.flatMap wayC)[j]?=some z→w'.cell? ⟨g,j,none⟩=some z∧g<w'.heap.size)→wpList Try.prog ops Q rest (a.put o.dst (.slice A2 (n+1) c2)) w'):
  wpList Try.prog ops Q (o::rest) a (w.alloc (.cells #[.int .i64 u,.int .i64 v] 115)):=by
 have hown1:=Own.below hown ((Below.refl w.heap.size w).alloc (Nat.le_refl _) (.cells #[.int .i64 u,.int .i64 v] 115)) (Nat.le_refl _)
 refine wpList_app2 hgd s x ePlace ho hs hown1 (m:=1) (c':=1) (us:=[.int .i64 u,.int .i64 v]) hx (RV.of_blk (Blk.new w _ #[.int .i64 u,.int .i64 v])) rfl (by intro y hy;simp only[List.mem_cons,List.not_mem_nil,or_false] at hy;rcases hy with rfl|rfl<;>rfl) (by decide) (by unfold maxLen;omega) (by omega) (by simp;omega) ?_
 intro A2 c2 w' ho2 hgr
 have ho3:OwnW w' base A2 (n+1) c2 (way++[(u,v)]):=by unfold OwnW;rw[List.flatMap_append];exact ho2
 have hO:Only (fun b=>A.map (·.block)=some b) w w':=by
  rcases hgr with ⟨-,-,k⟩|⟨-,k⟩
  ·exact Only.grown ((Only.refl _ w).alloc _) k fun q hq=> .inl hq
  exact Only.grown ((Only.refl _ w).alloc _) k fun q hq=>by cases hq
 refine h A2 c2 w' ho3 hO fun g hg j z hz=>?_
 subst hg
 obtain ⟨hj,hz2⟩:=List.getElem?_eq_some_iff.1 hz
 obtain ⟨c0,-,hgl⟩:=own_at hown1 j hj
 rw[hz2] at c0
 rcases hgr with ⟨rfl,-,-⟩|⟨-,k⟩
 ·obtain ⟨c1,-,hl⟩:=own_at ho2 j (by rw[List.length_append];omega)
  rw[List.getElem_append_left hj,hz2] at c1;exact ⟨c1,hl⟩
 ·have hb:=k.block g hgl (by simp)
  exact ⟨(World.cell?_of_block (w:=w.alloc _) (a:=⟨g,j,none⟩) hb).trans c0,Nat.lt_of_lt_of_le hgl k.size⟩
def EnterS (L:LA) (N:Nat) (m:Int) (w':World):Prop:=(w'.cell? ⟨L.bM,0,none⟩=some (.int .i64 m)∧L.bM<w'.heap.size)∧(w'.cell? ⟨L.bN,0,none⟩=some (.slice (some ⟨L.gN,0,none⟩) N N)∧L.bN<w'.heap.size)∧(w'.cell? ⟨L.bB,0,none⟩=some (.slice (some ⟨L.gB,0,none⟩) N N)∧L.bB<w'.heap.size)∧(w'.cell? ⟨L.bO,0,none⟩=some (.slice (some ⟨L.gO,0,none⟩) N N)∧L.bO<w'.heap.size)
theorem LMem.enterS {w:World} {L:LA} {b1 N:Nat} {met:Int} {num back:List Int} {on inn:List Bool} {row:List Int} {way:List (Int×Int)} (h:LMem w L b1 N met num back on inn row way):EnterS L N met w:=
 ⟨⟨h.met.cell 0,h.met.lt⟩,⟨h.vn.cell 0,h.vn.lt⟩,⟨h.vb.cell 0,h.vb.lt⟩,⟨h.vo.cell 0,h.vo.lt⟩⟩
set_option maxRecDepth 100000 in
set_option maxHeartbeats 2000000 in
theorem enter_any {L:LA} {b0 b1 N:Nat} {met:Int} {num back:List Int} {on inn:List Bool} {row:List Int} {way:List (Int×Int)} (n:Nat) (w:World) (h:LMem w L b1 N met num back on inn row way) (hs:LSep L b0 b1) (hb1:b1≤w.heap.size) (hb0:b0≤b1) (hn:n<N)
  (hlr:row.length≤100000) (hlw:way.length≤100000) (hm0:0≤met) (hm1:met≤100000) (hln:num.length=N) (hlb:back.length=N) (hlo:on.length=N):
  Calls Try.prog 64 #[.int .i64 (n:Int),.pointer (some ⟨L.bM,0,none⟩),.pointer (some ⟨L.bN,0,none⟩),.pointer (some ⟨L.bB,0,none⟩),.pointer (some ⟨L.bO,0,none⟩),.pointer (some ⟨L.bR,0,none⟩),.pointer (some ⟨L.bW,0,none⟩)] w fun e w'=>
   e= .returned (.tuple #[])∧LMem w' L b1 N (met+1) (num.set n (met+1)) (back.set n (met+1)) (on.set n true) inn (row++[(n:Int)]) (way++[((n:Int),0)])∧Below b0 w w'∧
   ∀g c,Blk w L.bW 113 #[.slice (some ⟨g,0,none⟩) way.length c]→∀j u,(way.flatMap wayC)[j]?=some u→w'.cell? ⟨g,j,none⟩=some u∧g<w'.heap.size:=by
 have m0:w.cell? ⟨L.bM,0,none⟩=some (.int .i64 met):=h.met.cell 0
 have mf0:w.frozen? ⟨L.bM,0,none⟩=false:=h.met.frozen 0
 have ml:=h.met.lt
 have hn2:(n:Int)<(N:Int):=by omega
 have H1:=Lib.hid (h.putMet hs (met+1))
 have H0:=Lib.hid h
 have Hs:=Lib.hid hs
 clear h hs
 go_enter Try.func64,Try.ntmps64
 go_wp2_with fail
 have hz1:b1≤(w.setCell ⟨L.bM,0,none⟩ (.int .i64 (met+1))).heap.size:=by simpa using hb1
 obtain ⟨w1,hw1⟩:∃w1,w1=w.setCell ⟨L.bM,0,none⟩ (.int .i64 (met+1)):=⟨_,rfl⟩
 rw[←hw1] at H1 hz1 ⊢
 have HB1:=Lib.hid (show Below b0 w w1 from by rw[hw1];exact (Below.refl _ _).setCell Hs.out.l_bM.1 _)
 have Hkeep1:=Lib.hid (show Only (fun b=>b=L.bM) w w1 from by rw[hw1];exact (Only.refl (fun b=>b=L.bM) w).setCell (p:=⟨L.bM,0,none⟩) (.inl rfl) _)
 have c0:=OwnI.at_ H1.out.num n (by omega)
 obtain ⟨cf0,cl0⟩:=OwnI.room H1.out.num n (by omega)
 have c1:=OwnI.at_ H1.out.back n (by omega)
 obtain ⟨cf1,cl1⟩:=OwnI.room H1.out.back n (by omega)
 have c2:=OwnL.at_ H1.out.on n (by omega)
 obtain ⟨cf2,cl2⟩:=OwnL.room H1.out.on n (by omega)
 generalize num[n]'(by omega)=u0 at c0
 generalize back[n]'(by omega)=u1 at c1
 generalize on[n]'(by omega)=u2 at c2
 clear hw1 m0 mf0 ml
 go_upto_region 1 with (fail)
 go_cut [10] from 10 to 20 (fun _ wx=>LMem wx L b1 N (met+1) (num.set n (met+1)) (back.set n (met+1)) (on.set n true) inn row way∧Only (fun b=>b=L.gN∨b=L.gB∨b=L.gO) w1 wx)
 case first=>
  have n1:L.gB≠L.gN:=Hs.out.gN_gB.symm;have n2:L.gO≠L.gN:=Hs.out.gN_gO.symm;have n3:L.gO≠L.gB:=Hs.out.gB_gO.symm;have H2:=Lib.hid (H1.out.putNum Hs.out n (met+1));have H3:=Lib.hid (H2.out.putBack Hs.out n (met+1));have H4:=Lib.hid (H3.out.putOn Hs.out n true);have HSC:=Lib.hid (show EnterS L N (met+1) w1.drew from H1.out.enterS)
  refine region_heldT 14 (EnterS L N (met+1)) (by kernel_rfl) (by decide) ?_
  refine hwA 0 (.slice (some ⟨L.gN,0,none⟩) N N) HSC.out ?_ (hy:=by intro w hSw;obtain ⟨⟨e0,l0⟩,⟨e1,l1⟩,⟨e2,l2⟩,⟨e3,l3⟩⟩:=hSw;go_simp)
  simp only[Act.put,List.setIfInBounds_toArray];refine hwA 1 (.int .i64 (n:Int)) HSC.out ?_ (hy:=by intro w hSw;obtain ⟨⟨e0,l0⟩,⟨e1,l1⟩,⟨e2,l2⟩,⟨e3,l3⟩⟩:=hSw;go_simp)
  simp only[Act.put];refine hwA 2 (.slice (some ⟨L.gB,0,none⟩) N N) HSC.out ?_ (hy:=by intro w hSw;obtain ⟨⟨e0,l0⟩,⟨e1,l1⟩,⟨e2,l2⟩,⟨e3,l3⟩⟩:=hSw;go_simp)
  simp only[Act.put];refine hwA 3 (.int .i64 (n:Int)) HSC.out ?_ (hy:=by intro w hSw;obtain ⟨⟨e0,l0⟩,⟨e1,l1⟩,⟨e2,l2⟩,⟨e3,l3⟩⟩:=hSw;go_simp)
  simp only[Act.put];refine hwA 4 (.slice (some ⟨L.gO,0,none⟩) N N) HSC.out ?_ (hy:=by intro w hSw;obtain ⟨⟨e0,l0⟩,⟨e1,l1⟩,⟨e2,l2⟩,⟨e3,l3⟩⟩:=hSw;go_simp)
  simp only[Act.put];refine hwA 5 (.int .i64 (n:Int)) HSC.out ?_ (hy:=by intro w hSw;obtain ⟨⟨e0,l0⟩,⟨e1,l1⟩,⟨e2,l2⟩,⟨e3,l3⟩⟩:=hSw;go_simp)
  simp only[Act.put];refine hwA 6 (.int .i64 (met+1)) HSC.out ?_ (hy:=by intro w hSw;obtain ⟨⟨e0,l0⟩,⟨e1,l1⟩,⟨e2,l2⟩,⟨e3,l3⟩⟩:=hSw;go_simp)
  simp only[Act.put];refine hwA 7 (.int .i64 (met+1)) HSC.out ?_ (hy:=by intro w hSw;obtain ⟨⟨e0,l0⟩,⟨e1,l1⟩,⟨e2,l2⟩,⟨e3,l3⟩⟩:=hSw;go_simp)
  simp only[Act.put];refine hwA 8 (.pointer (some ⟨L.gN,n,none⟩)) HSC.out ?_ (hy:=by intro w hSw;obtain ⟨⟨e0,l0⟩,⟨e1,l1⟩,⟨e2,l2⟩,⟨e3,l3⟩⟩:=hSw;go_simp)
  simp only[Act.put];refine hwO 9 fun K hK=>?_;go_simp;refine hK.out _ _ (show EnterS L N (met+1) _ from H2.out.enterS) (fun hHeld=>?_)
  clear hK K hHeld;refine hwO 10 fun K hK=>?_;go_simp;refine hK.out _ _ (show EnterS L N (met+1) _ from H2.out.enterS) (fun hHeld=>?_)
  clear hK K hHeld;refine hwO 11 fun K hK=>?_;go_simp;refine hK.out _ _ (show EnterS L N (met+1) _ from H3.out.enterS) (fun hHeld=>?_)
  clear hK K hHeld;refine hwO 12 fun K hK=>?_;go_simp;refine hK.out _ _ (show EnterS L N (met+1) _ from H3.out.enterS) (fun hHeld=>?_)
  clear hK K hHeld;refine hwO 13 fun K hK=>?_;go_simp;refine hK.out _ _ (show EnterS L N (met+1) _ from H4.out.enterS) (fun hHeld=>?_)
  clear hK K hHeld;refine fun _=>⟨by kernel_rfl,?_⟩
  simp only[List.drop_succ_cons,List.drop_zero];refine (‹∀(a':Act) (w':World),Met _ a' w'→_› _ _ ?_);go_meet;case rel=>exact ⟨(show LMem _ L b1 N (met+1) _ _ _ inn row way from H4.out.below (below_drewN (Below.refl _ _) 1)),((((Only.refl (fun b=>b=L.gN∨b=L.gB∨b=L.gO) w1).setCell (p:=⟨L.gN,n,none⟩) (.inl (.inl rfl)) _).setCell (p:=⟨L.gB,n,none⟩) (.inl (.inr (.inl rfl))) _).setCell (p:=⟨L.gO,n,none⟩) (.inl (.inr (.inr rfl))) _).drew⟩
 case rest=>
 rename World=>w5
 obtain ⟨hM,hO5⟩:=hcut
 have hz5:b1≤w5.heap.size:=Nat.le_trans hz1 hO5.size
 have HB5:=Lib.hid (HB1.out.trans (hO5.below (B:=b0) (by omega) (fun q hq e=>by have:=Hs.out.l_gN;have:=Hs.out.l_gB;have:=Hs.out.l_gO;omega)))
 obtain ⟨A,c,k1,k2⟩:=hM.row
 have r0:w5.cell? ⟨L.bR,0,none⟩=some (.slice A row.length c):=k1.cell 0
 have rf0:w5.frozen? ⟨L.bR,0,none⟩=false:=k1.frozen 0
 have rl:=k1.lt
 have HM5:=Lib.hid hM
 have HO5:=Lib.hid hO5
 have K1:=Lib.hid k1
 have K2:=Lib.hid k2
 clear hM hO5 k1 k2 c0 c1 c2 cf0 cf1 cf2 cl0 cl1 cl2
 go_wp2_with (refine wpList_at 24 rfl ?_;refine wp_stop ?_)
 try refine ⟨?_⟩
 refine wpList_push1 rfl (.tmp 21) (.tmp 23) eInt rfl rfl K2.out rfl rfl (by unfold maxLen;omega) (by omega) hz5 ?_
 intro A6 c6 w6 hown6 hO6
 have hkey:∀b,b<b1→¬ A.map (·.block)=some b:=fun b hb e=>by have:=(Own.row K2.out b e).1;omega
 have kR6:=K1.out.only hO6 (hkey _ Hs.out.l_bR.2)
 have r6:w6.cell? ⟨L.bR,0,none⟩=some (.slice A row.length c):=kR6.cell 0
 have rf6:w6.frozen? ⟨L.bR,0,none⟩=false:=kR6.frozen 0
 have rl6:=kR6.lt
 have hrow6:OwnI w6 b1 A6 (row++[(n:Int)]).length c6 (row++[(n:Int)]):=OwnI.push hown6
 have HM6:=Lib.hid (HM5.out.turnRow Hs.out K2.out hO6 (n2:=row.length+1) (row':=row++[(n:Int)]) (by simp) (by rw[List.length_append] at hrow6;exact hrow6))
 have HB6:=Lib.hid (HB5.out.trans (hO6.below (B:=b0) (by omega) (fun q hq e=>by have:=(Own.row K2.out q e).1;omega)))
 have hz6:b1≤w6.heap.size:=Nat.le_trans hz5 hO6.size
 have HOR:=Lib.hid hO6
 clear hown6 hO6 kR6 hrow6 r0 rf0 rl
 go_wp2_with (refine wpList_at 25 rfl ?_;refine wp_stop ?_)
 try refine ⟨?_⟩
 have hB7:Below b0 w (w6.setCell ⟨L.bR,0,none⟩ (.slice A6 (row.length+1) c6)):=HB6.out.setCell Hs.out.l_bR.1 _
 have hz7:b1≤(w6.setCell ⟨L.bR,0,none⟩ (.slice A6 (row.length+1) c6)).heap.size:=by simpa using hz6
 have hsame:∀q,q∉[L.bM,L.gN,L.gB,L.gO,L.bR]→q<w.heap.size→¬ A.map (·.block)=some q→(w6.setCell ⟨L.bR,0,none⟩ (.slice A6 (row.length+1) c6)).heap[q]?=w.heap[q]?:=fun q hq hql hqA=>by
  simp only[List.mem_cons,List.not_mem_nil,or_false,not_or] at hq;have e1:=Hkeep1.out.block q hql hq.1;have hl1:q<w1.heap.size:=Nat.lt_of_lt_of_le hql Hkeep1.out.size;have e2:=HO5.out.block q hl1 (by omega)
  have hl2:q<w5.heap.size:=Nat.lt_of_lt_of_le hl1 HO5.out.size;have e3:=HOR.out.block q hl2 hqA;have e4:=Below.heap_setCell w6 ⟨L.bR,0,none⟩ (.slice A6 (row.length+1) c6) q (by show q≠L.bR;exact hq.2.2.2.2)
  rw[e4,e3,e2,e1]
 have Hsame:=Lib.hid hsame
 have hM7:=HM6.out
 generalize w6.setCell ⟨L.bR,0,none⟩ (.slice A6 (row.length+1) c6)=w7 at*
 obtain ⟨AW,cW,k1,k2⟩:=hM7.way
 have v0:w7.cell? ⟨L.bW,0,none⟩=some (.slice AW way.length cW):=k1.cell 0
 have vf0:w7.frozen? ⟨L.bW,0,none⟩=false:=k1.frozen 0
 have vl:=k1.lt
 have HM7:=Lib.hid hM7
 have HB7:=Lib.hid hB7
 have KW1:=Lib.hid k1
 have KW2:=Lib.hid k2
 clear hM7 hB7 k1 k2 hsame r6 rf6 rl6 HM6 HB6 HOR
 go_wp2_with (refine wpList_at 29 rfl ?_;refine wp_stop ?_)
 try refine ⟨?_⟩
 refine wpList_pushW rfl (.tmp 25) (.tmp 28) rfl rfl KW2.out rfl rfl (by omega) hz7 ?_
 intro A8 c8 w8 hown8 hO8 hptr8
 have hkey8:∀b,b<b1→¬ AW.map (·.block)=some b:=fun b hb e=>by have:=(Own.row KW2.out b e).1;omega
 have kW8:=KW1.out.only hO8 (hkey8 _ Hs.out.l_bW.2)
 have v8:w8.cell? ⟨L.bW,0,none⟩=some (.slice AW way.length cW):=kW8.cell 0
 have vf8:w8.frozen? ⟨L.bW,0,none⟩=false:=kW8.frozen 0
 have vl8:=kW8.lt
 have HM8:=Lib.hid (HM7.out.turnWay Hs.out KW2.out hO8 (n2:=way.length+1) (way':=way++[((n:Int),0)]) (by simp) hown8)
 have HB8:=Lib.hid (HB7.out.trans (hO8.below (B:=b0) (by omega) (fun q hq e=>by have:=(Own.row KW2.out q e).1;omega)))
 have Hptr:=Lib.hid hptr8
 clear hown8 hO8 kW8 hptr8 v0 vf0 vl
 go_wp2_with fail
 refine bodyPost_end (v:=.tuple #[]) (results_none rfl _ _ _) rfl ⟨rfl,HM8.out,HB8.out.setCell Hs.out.l_bW.1 _,fun g cc hg j u hu=>?_⟩
 have hgA:AW=some ⟨g,0,none⟩:=by
  have e1:=Hsame.out L.bW (by simp only[List.mem_cons,List.not_mem_nil,or_false,not_or];exact ⟨Hs.out.bM_bW.symm,Hs.out.bW_gN,Hs.out.bW_gB,Hs.out.bW_gO,Hs.out.bR_bW.symm⟩) hg.lt (hkey _ Hs.out.l_bW.2)
  have e2:w7.heap[L.bW]?=_:=KW1.out;rw[e1] at e2;have e3:w.heap[L.bW]?=_:=hg;rw[e3] at e2;injection e2 with e2
  injection e2 with e2
  simp only[Array.mk.injEq,List.cons.injEq,and_true,Value.slice.injEq] at e2;exact e2.1.symm
 obtain ⟨p1,p2⟩:=Hptr.out g hgA j u hu
 have hgb:b1≤g:=(Own.row KW2.out g (by rw[hgA];rfl)).1
 refine ⟨?_,by simpa using p2⟩
 rw[World.cell?_of_block (w:=w8) (a:=⟨g,j,none⟩) (Below.heap_setCell w8 ⟨L.bW,0,none⟩ _ g (by show g≠L.bW;have:=Hs.out.l_bW.2;omega))]
 exact p1
end
section
def nl (l:List Nat):Nat→Nat:=fun v=>l.getD v 0
def bl (l:List Bool):Nat→Bool:=fun v=>l.getD v false
theorem nl_set {l:List Nat} {i x:Nat} (h:i<l.length):nl (l.set i x)=upd (nl l) i x:=by
 funext v
 show (l.set i x).getD v 0=if v=i then x else l.getD v 0
 rw[List.getD_eq_getElem?_getD,List.getD_eq_getElem?_getD];by_cases e:v=i
 ·subst e;rw[if_pos rfl,List.getElem?_set_self h];rfl
 rw[if_neg e,List.getElem?_set_ne (Ne.symm e)]
theorem bl_set {l:List Bool} {i:Nat} {x:Bool} (h:i<l.length):bl (l.set i x)=upd (bl l) i x:=by
 funext v
 show (l.set i x).getD v false=if v=i then x else l.getD v false
 rw[List.getD_eq_getElem?_getD,List.getD_eq_getElem?_getD];by_cases e:v=i
 ·subst e;rw[if_pos rfl,List.getElem?_set_self h];rfl
 rw[if_neg e,List.getElem?_set_ne (Ne.symm e)]
theorem nl_get {l:List Nat} {i:Nat} (h:i<l.length):l[i]=nl l i:=by
 unfold nl;rw[List.getD_eq_getElem?_getD,List.getElem?_eq_getElem h];rfl
theorem bl_get {l:List Bool} {i:Nat} (h:i<l.length):l[i]=bl l i:=by
 unfold bl;rw[List.getD_eq_getElem?_getD,List.getElem?_eq_getElem h];rfl
theorem nl_rep (n:Nat):nl (List.replicate n 0)=fun _=>0:=by
 funext v
 unfold nl;rw[List.getD_eq_getElem?_getD,List.getElem?_replicate];split<;>rfl
theorem bl_rep (n:Nat):bl (List.replicate n false)=fun _=>false:=by
 funext v
 unfold bl;rw[List.getD_eq_getElem?_getD,List.getElem?_replicate];split<;>rfl
def mi (l:List Nat):List Int:=l.map fun (k:Nat)=>(k:Int)
def mw (l:List (Nat×Nat)):List (Int×Int):=l.map fun (x:Nat×Nat)=>((x.1:Int),(x.2:Int))
theorem mi_len (l:List Nat):(mi l).length=l.length:=List.length_map _
theorem mw_len (l:List (Nat×Nat)):(mw l).length=l.length:=List.length_map _
theorem mi_set (l:List Nat) (i x:Nat):mi (l.set i x)=(mi l).set i (x:Int):=List.map_set
def zeros (l:List Nat):Nat:=l.countP fun k=>k==0
structure LSt (nx:Nat→List Nat) (N:Nat) (num back:List Nat) (on inn:List Bool) (row:List Nat) (way:List (Nat×Nat)) (met:Nat):Prop where
 ti:TI nx N (nl num) (nl back) (bl on) (bl inn) row way met
 ln:num.length=N
 lb:back.length=N
 lo:on.length=N
 li:inn.length=N
 cnt:met+zeros num=N
 rl:row.length≤met
 wl:way.length≤met
def mu (nx:Nat→List Nat) (num:List Nat) (way:List (Nat×Nat)):Nat:=4*zeros num+(way.map fun x=>(nx x.1).length-x.2+1).sum
section
variable {nx:Nat→List Nat} {N:Nat} {num back:List Nat} {on inn:List Bool} {row:List Nat} {rest:List (Nat×Nat)} {met w d n:Nat}
theorem zeros_set {l:List Nat} {i x:Nat} (h:l[i]?=some 0) (hx:x≠0):zeros (l.set i x)+1=zeros l:=by
 have h1:=countP_set (fun k:Nat=>k==0) l i 0 x h;have h2:(x==0)=false:=by simpa using hx
 simp only[h2,beq_self_eq_true,if_true,Bool.false_eq_true,if_false] at h1;unfold zeros;omega
theorem LSt.start (hN:0<N):LSt nx N ((List.replicate N 0).set 0 1) ((List.replicate N 0).set 0 1) ((List.replicate N false).set 0 true) (List.replicate N false) [0] [(0,0)] 1:=by
 have h1:(List.replicate N 0)[0]?=some 0:=by rw[List.getElem?_replicate,if_pos hN]
 have h2:=zeros_set h1 (x:=1) (by decide)
 have h3:zeros (List.replicate N 0)=N:=by unfold zeros;rw[List.countP_replicate];rfl
 refine ⟨?_,by simp,by simp,by simp,by simp,by omega,Nat.le_refl _,Nat.le_refl _⟩
 rw[nl_set (by simpa using hN),bl_set (by simpa using hN),nl_rep,bl_rep]
 exact TI.start hN
theorem LSt.off (H:LSt nx N num back on inn row ((w,d)::rest) met) (hd:d<(nx w).length) (hn:n=(nx w)[d]) (h0:nl num n≠0) (ho:bl on n=false):LSt nx N num back on inn row ((w,d+1)::rest) met:=
 ⟨H.ti.off hd hn h0 ho,H.ln,H.lb,H.lo,H.li,H.cnt,H.rl,H.wl⟩
theorem LSt.top_lt (H:LSt nx N num back on inn row ((w,d)::rest) met):w<N:=H.ti.bnd w (H.ti.vis w H.ti.top_row)
theorem LSt.edge (H:LSt nx N num back on inn row ((w,d)::rest) met) (hd:d<(nx w).length) (hn:n=(nx w)[d]) (ho:bl on n=true):
  LSt nx N num (back.set w (min (nl back w) (nl num n))) on (if n=w then inn.set w true else inn) row ((w,d+1)::rest) met:=by
 have hw:=H.top_lt
 refine ⟨?_,H.ln,by rw[List.length_set];exact H.lb,H.lo,by split<;>simp[H.li],H.cnt,H.rl,H.wl⟩
 have h1:=H.ti.edge hd hn ho
 rw[nl_set (by rw[H.lb];exact hw)]
 by_cases e:n=w
 ·rw[if_pos e] at h1 ⊢;rw[bl_set (by rw[H.li];exact hw)]
  exact h1
 ·rw[if_neg e] at h1 ⊢;exact h1
theorem LSt.enter (H:LSt nx N num back on inn row ((w,d)::rest) met) (hd:d<(nx w).length) (hn:n=(nx w)[d]) (h0:nl num n=0) (hnN:n<N):
  LSt nx N (num.set n (met+1)) (back.set n (met+1)) (on.set n true) inn (n::row) ((n,0)::(w,d+1)::rest) (met+1):=by
 have h1:num[n]?=some 0:=by rw[List.getElem?_eq_getElem (by rw[H.ln];exact hnN),nl_get,h0]
 have h2:=zeros_set h1 (x:=met+1) (by omega)
 have h3:=H.cnt
 have h4:=H.rl
 have h5:=H.wl
 refine ⟨?_,by rw[List.length_set];exact H.ln,by rw[List.length_set];exact H.lb,by rw[List.length_set];exact H.lo,H.li,by omega,by rw[List.length_cons];omega,by rw[List.length_cons];rw[List.length_cons] at h5 ⊢;omega⟩
 rw[nl_set (by rw[H.ln];exact hnN),nl_set (by rw[H.lb];exact hnN),bl_set (by rw[H.lo];exact hnN)]
 exact H.ti.enter hd hn h0 hnN
theorem LSt.next_lt {w1 d1:Nat} (H:LSt nx N num back on inn row ((w,d)::(w1,d1)::rest) met):w1<N:=H.ti.bnd w1 (H.ti.vis w1 (H.ti.wrow (w1,d1) (by simp)))
theorem LSt.keep {w1 d1:Nat} (H:LSt nx N num back on inn row ((w,d)::(w1,d1)::rest) met) (hd:d=(nx w).length) (hb:nl back w≠nl num w):
  LSt nx N num (back.set w1 (min (nl back w1) (nl back w))) on inn row ((w1,d1)::rest) met:=by
 have h5:=H.wl
 refine ⟨?_,H.ln,by rw[List.length_set];exact H.lb,H.lo,H.li,H.cnt,H.rl,by rw[List.length_cons] at h5;omega⟩
 rw[nl_set (by rw[H.lb];exact H.next_lt)]
 exact H.ti.keep hd hb
theorem LSt.still {w1 d1:Nat} (H:LSt nx N num back on inn row ((w,d)::(w1,d1)::rest) met) (hb:nl back w=nl num w):back.set w1 (min (nl back w1) (nl back w))=back:=by
 have h1:=H.ti.top_max (w1,d1) (by simp)
 have h2:=H.ti.b0 (w1,d1) (by simp)
 dsimp only at h1 h2;have h3:min (nl back w1) (nl back w)=nl back w1:=by omega
 have hl:w1<back.length:=by rw[H.lb];exact H.next_lt
 rw[h3, ←nl_get hl,List.set_getElem_self]
structure Off (on inn on' inn':List Bool) (N:Nat) (many:Bool) (pre:List Nat):Prop where
 lo:on'.length=N
 li:inn'.length=N
 on:∀v,bl on' v=true↔bl on v=true∧v∉pre
 inn:∀v,bl inn' v=true↔bl inn v=true∨(many=true∧v∈pre)
theorem Off.start {many:Bool} (h1:on.length=N) (h2:inn.length=N):Off on inn on inn N many []:=⟨h1,h2,fun v=>by simp,fun v=>by simp⟩
theorem Off.next {on' inn':List Bool} {many:Bool} {pre:List Nat} {x:Nat} (h:Off on inn on' inn' N many pre) (hx:x<N):Off on inn (on'.set x false) (inn'.set x (bl inn' x||many)) N many (pre++[x]):=by
 refine ⟨by rw[List.length_set];exact h.lo,by rw[List.length_set];exact h.li,fun v=>?_,fun v=>?_⟩
 ·rw[bl_set (by rw[h.lo];exact hx)]
  by_cases e:v=x
  ·subst e;rw[upd_same];simp
  rw[upd_ne e,h.on];simp[e]
 rw[bl_set (by rw[h.li];exact hx)]
 by_cases e:v=x
 ·subst e;rw[upd_same,Bool.or_eq_true,h.inn];simp only[List.mem_append,List.mem_singleton,or_true,and_true];constructor
  ·rintro ((h|h)|h)
   ·exact .inl h
   ·exact .inr h.1
   exact .inr h
  rintro (h|h)
  ·exact .inl (.inl h)
  exact .inr h
 rw[upd_ne e,h.inn];simp[e]
theorem LSt.root_ (H:LSt nx N num back on inn row ((w,d)::rest) met) (hd:d=(nx w).length) (hb:nl back w=nl num w) {pre suf:List Nat} (hrow:row=pre++w::suf) {on' inn':List Bool} {many:Bool}
  (hm:many=true↔pre≠[]) (ho:Off on inn on' inn' N many (pre++[w])):LSt nx N num back on' inn' suf rest met:=by
 have h4:=H.rl
 have h5:=H.wl
 have hnd:row.Nodup:=H.ti.rdec.imp fun h e=>by rw[e] at h;omega
 refine ⟨H.ti.root_ hd hb hrow (fun v=>?_) hm (fun v=>by rw[ho.inn];simp),H.ln,H.lb,ho.lo,ho.li,H.cnt,by rw[hrow,List.length_append,List.length_cons] at h4;omega,by rw[List.length_cons] at h5;omega⟩
 rw[ho.on,H.ti.onrow,hrow]
 have hnd2:((pre++[w])++suf).Nodup:=by rw[hrow] at hnd;simpa using hnd
 rw[List.nodup_append] at hnd2
 constructor
 ·rintro ⟨h1,h2⟩;have h3:v∈(pre++[w])++suf:=by simpa using h1
  exact (List.mem_append.1 h3).resolve_left h2
 ·intro h;exact ⟨by simp[h],fun h2=>hnd2.2.2 v h2 v h rfl⟩
theorem mu_step (hd:d<(nx w).length):mu nx num ((w,d+1)::rest)<mu nx num ((w,d)::rest):=by
 unfold mu;rw[List.map_cons,List.map_cons,List.sum_cons,List.sum_cons];dsimp only;omega
theorem mu_enter (hd:d<(nx w).length) (hn:(nx n).length≤2) {x:Nat} (h0:num[n]?=some 0) (hx:x≠0):mu nx (num.set n x) ((n,0)::(w,d+1)::rest)<mu nx num ((w,d)::rest):=by
 have h1:=zeros_set h0 hx;unfold mu;rw[List.map_cons,List.map_cons,List.map_cons,List.sum_cons,List.sum_cons,List.sum_cons];dsimp only;omega
theorem mu_pop:mu nx num rest<mu nx num ((w,d)::rest):=by
 unfold mu;rw[List.map_cons,List.sum_cons];omega
end
end
section
open Go.RowKit
theorem blk6 (w:World) (a b c d e g:Array Value) (ta tb tc td te tg:TypeId):
  let W:=((((((w.alloc (.cells a ta)).alloc (.cells b tb)).alloc (.cells c tc)).alloc (.cells d td)).alloc (.cells e te)).alloc (.cells g tg))
  Blk W w.heap.size ta a∧Blk W (w.heap.size+1) tb b∧Blk W (w.heap.size+1+1) tc c∧Blk W (w.heap.size+1+1+1) td d∧Blk W (w.heap.size+1+1+1+1) te e∧Blk W (w.heap.size+1+1+1+1+1) tg g:=by
 intro W
 have h3:=Blk.new2 (w.alloc (.cells a ta)) (.cells b tb) tc c
 have h4:=Blk.new2 ((w.alloc (.cells a ta)).alloc (.cells b tb)) (.cells c tc) td d
 have h5:=Blk.new2 (((w.alloc (.cells a ta)).alloc (.cells b tb)).alloc (.cells c tc)) (.cells d td) te e
 have h6:=Blk.new2 ((((w.alloc (.cells a ta)).alloc (.cells b tb)).alloc (.cells c tc)).alloc (.cells d td)) (.cells e te) tg g
 simp only[World.size_alloc] at h3 h4 h5 h6
 exact ⟨(((((Blk.new w ta a).alloc _).alloc _).alloc _).alloc _).alloc _,((((Blk.new2 w _ tb b).alloc _).alloc _).alloc _).alloc _,((h3.alloc _).alloc _).alloc _,(h4.alloc _).alloc _,h5.alloc _,h6⟩
theorem OwnL.of_blk {w:World} {g n:Nat} {xs:List Bool} (h:Blk w g 4 (xs.map bo).toArray) (hn:xs.length=n) (hm:n≤1000000):OwnL w 0 (some ⟨g,0,none⟩) n n xs:=
 ⟨by rw[List.length_map,hn,Nat.mul_one],.inr ⟨g,n,(xs.map bo).toArray,rfl,Nat.zero_le _,h,Nat.le_refl _,by unfold maxLen;omega,by simp[hn],by rw[Nat.mul_one,List.take_of_length_le (by simp[hn])]⟩⟩
structure LW (nx:Nat→List Nat) (w:World) (L:LA) (b1 N:Nat) (num back:List Nat) (on inn:List Bool) (row:List Nat) (way:List (Nat×Nat)) (met:Nat):Prop where
 st:LSt nx N num back on inn row way met
 mem:LMem w L b1 N (met:Int) (mi num) (mi back) on inn (mi row.reverse) (mw way.reverse)
theorem LMem.entered {w:World} {L:LA} {b1 N n met:Nat} {num back:List Nat} {on inn:List Bool} {row:List Nat} {way:List (Nat×Nat)}
  (h:LMem w L b1 N ((met:Int)+1) ((mi num).set n ((met:Int)+1)) ((mi back).set n ((met:Int)+1)) on inn (mi row.reverse++[(n:Int)]) (mw way.reverse++[((n:Int),0)])):
  LMem w L b1 N ((met+1:Nat):Int) (mi (num.set n (met+1))) (mi (back.set n (met+1))) on inn (mi (n::row).reverse) (mw ((n,0)::way).reverse):=by
 rw[mi_set,mi_set,List.reverse_cons,List.reverse_cons]
 unfold mi mw at*
 rw[List.map_append,List.map_append]
 exact h
theorem mw_last (v d:Nat) (rest:List (Nat×Nat)):mw ((v,d)::rest).reverse=mw rest.reverse++[((v:Int),(d:Int))]:=by
 rw[List.reverse_cons];unfold mw;rw[List.map_append];rfl
theorem mi_last (v:Nat) (rest:List Nat):mi (v::rest).reverse=mi rest.reverse++[(v:Int)]:=by
 rw[List.reverse_cons];unfold mi;rw[List.map_append];rfl
theorem mwr_len (l:List (Nat×Nat)):(mw l.reverse).length=l.length:=by rw[mw_len,List.length_reverse]
theorem mir_len (l:List Nat):(mi l.reverse).length=l.length:=by rw[mi_len,List.length_reverse]
theorem way_at (v d:Nat) (rest:List (Nat×Nat)):((mw ((v,d)::rest).reverse).flatMap wayC)[rest.length*2]?=some (.int .i64 (v:Int))∧((mw ((v,d)::rest).reverse).flatMap wayC)[rest.length*2+1]?=some (.int .i64 (d:Int)):=by
 have hl:rest.length<(mw ((v,d)::rest).reverse).length:=by rw[mwr_len,List.length_cons];omega
 have he:(mw ((v,d)::rest).reverse)[rest.length]=((v:Int),(d:Int)):=by
  have h1:(mw ((v,d)::rest).reverse)[rest.length]?=some ((v:Int),(d:Int)):=by
   rw[mw_last,List.getElem?_append_right (by rw[mwr_len];exact Nat.le_refl _),mwr_len,Nat.sub_self];rfl
  exact (List.getElem?_eq_some_iff.1 h1).2
 have h0:=wayC_get _ rest.length 0 hl (by omega)
 have h1:=wayC_get _ rest.length 1 hl (by omega)
 rw[he] at h0 h1;exact ⟨h0,h1⟩
theorem way_done (v d:Nat) (rest:List (Nat×Nat)):((mw ((v,d)::rest).reverse).flatMap wayC).set (rest.length*2+1) (.int .i64 ((d:Int)+1))=(mw ((v,d+1)::rest).reverse).flatMap wayC:=by
 rw[mw_last,mw_last,List.flatMap_append,List.flatMap_append,List.set_append,if_neg (by rw[wayC_len,mwr_len];omega),wayC_len,mwr_len,show rest.length*2+1-rest.length*2=1 by omega]
 rfl
theorem way_cut (v d:Nat) (rest:List (Nat×Nat)):((mw ((v,d)::rest).reverse).flatMap wayC).take (rest.length*2)=(mw rest.reverse).flatMap wayC:=by
 rw[mw_last,List.flatMap_append,List.take_append_of_le_length (by rw[wayC_len,mwr_len];exact Nat.le_refl _),List.take_of_length_le (by rw[wayC_len,mwr_len];exact Nat.le_refl _)]
theorem row_cut (v:Nat) (rest:List Nat):((mi (v::rest).reverse).map iv).take (rest.length*1)=(mi rest.reverse).map iv:=by
 rw[mi_last,List.map_append,Nat.mul_one,List.take_append_of_le_length (by rw[List.length_map,mir_len];exact Nat.le_refl _),List.take_of_length_le (by rw[List.length_map,mir_len];exact Nat.le_refl _)]
theorem row_at (v:Nat) (rest:List Nat):((mi (v::rest).reverse).map iv)[rest.length]?=some (.int .i64 (v:Int)):=by
 rw[mi_last,List.map_append,List.getElem?_append_right (by rw[List.length_map,mir_len];exact Nat.le_refl _),List.length_map,mir_len,Nat.sub_self]
 rfl
theorem LMem.putDone {w:World} {L:LA} {b0 b1 N:Nat} {met:Int} {num back:List Int} {on inn:List Bool} {row:List Int} {v d:Nat} {rest:List (Nat×Nat)} (h:LMem w L b1 N met num back on inn row (mw ((v,d)::rest).reverse)) (hs:LSep L b0 b1)
  {g c:Nat} (hv:Blk w L.bW 113 #[.slice (some ⟨g,0,none⟩) (rest.length+1) c]) (ho:OwnW w b1 (some ⟨g,0,none⟩) (rest.length+1) c (mw ((v,d)::rest).reverse)):
  LMem (w.setCell ⟨g,rest.length*2+1,none⟩ (.int .i64 ((d:Int)+1))) L b1 N met num back on inn row (mw ((v,d+1)::rest).reverse):=by
 have hg:=(Own.row ho g rfl).1
 have key:∀b,b<b1→b≠g:=fun b hb e=>by omega
 obtain ⟨A,cr,k1,k2⟩:=h.row
 refine ⟨h.met.far (p:=⟨g,_,none⟩) (key _ hs.l_bM.2) _,h.vn.far (p:=⟨g,_,none⟩) (key _ hs.l_bN.2) _,h.vb.far (p:=⟨g,_,none⟩) (key _ hs.l_bB.2) _,h.vo.far (p:=⟨g,_,none⟩) (key _ hs.l_bO.2) _,
  Own.fars h.num (fun e=>by injection e with e;exact key _ hs.l_gN.2 e) _,Own.fars h.back (fun e=>by injection e with e;exact key _ hs.l_gB.2 e) _,Own.fars h.on (fun e=>by injection e with e;exact key _ hs.l_gO.2 e) _,Own.fars h.inn (fun e=>by injection e with e;exact key _ hs.l_gI.2 e) _,
  ⟨A,cr,k1.far (p:=⟨g,_,none⟩) (key _ hs.l_bR.2) _,Own.fars k2 (fun e=>own_ne k2 ho (by decide) g e rfl) _⟩,
  ⟨some ⟨g,0,none⟩,c,by rw[mwr_len];exact hv.far (p:=⟨g,_,none⟩) (key _ hs.l_bW.2) _,?_⟩⟩
 rw[mwr_len,List.length_cons]
 unfold OwnW
 rw[←way_done]
 exact own_set ho _ _
theorem LMem.popWay {w:World} {L:LA} {b0 b1 N:Nat} {met:Int} {num back:List Int} {on inn:List Bool} {row:List Int} {v d:Nat} {rest:List (Nat×Nat)} (h:LMem w L b1 N met num back on inn row (mw ((v,d)::rest).reverse)) (hs:LSep L b0 b1)
  {g c:Nat} (ho:OwnW w b1 (some ⟨g,0,none⟩) (rest.length+1) c (mw ((v,d)::rest).reverse)):
  LMem (w.setCell ⟨L.bW,0,none⟩ (.slice (some ⟨g,0,none⟩) rest.length c)) L b1 N met num back on inn row (mw rest.reverse):=by
 refine h.putWay hs (by rw[mwr_len]) ?_
 have h1:=Own.cut ho rest.length (by omega) (by intro h;cases h)
 rw[way_cut] at h1
 exact h1
theorem LMem.popRow {w:World} {L:LA} {b0 b1 N:Nat} {met:Int} {num back:List Int} {on inn:List Bool} {way:List (Int×Int)} {v:Nat} {rest:List Nat} (h:LMem w L b1 N met num back on inn (mi (v::rest).reverse) way) (hs:LSep L b0 b1)
  {g c:Nat} (ho:OwnI w b1 (some ⟨g,0,none⟩) (rest.length+1) c (mi (v::rest).reverse)):
  LMem (w.setCell ⟨L.bR,0,none⟩ (.slice (some ⟨g,0,none⟩) rest.length c)) L b1 N met num back on inn (mi rest.reverse) way:=by
 refine h.putRow hs (by rw[mir_len]) ?_
 have h1:=Own.cut ho rest.length (by omega) (by intro h;cases h)
 rw[row_cut] at h1
 exact h1
theorem Own.le_cap {w:World} {base size n c:Nat} {e:TypeId} {A:Option Addr} {vs:List Value} (h:Own w base e size A n c vs):n≤c:=by
 rcases h.2 with ⟨hv,h0⟩|⟨g,cap,cur,hv,-,-,hn,-⟩
 ·omega
 injection hv with h1 h2 h3
 rw[h3];exact hn
theorem mi_get {l:List Nat} {i:Nat} (h:i<l.length):(mi l)[i]'(by rw[mi_len];exact h)=(nl l i:Int):=by
 unfold mi;rw[List.getElem_map,nl_get h]
end
end Go.Proofs.Ytcmpmhlcfalbhaa
