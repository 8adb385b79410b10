import Derived.Test.YtcmpmhlcfalbhaaChecked
import Derived.Test.YtcmpmhlcfalbhaaV01
import Derived.WalkKit
import Derived.Lib.Hide
import Derived.Below
namespace Go.Proofs.Ytcmpmhlcfalbhaa
section
open Go.RowKit
theorem two_any (s:ByteArray) (w:World):
  Calls Try.prog 84 #[.string s] w fun e w'=>e= .returned (.agg #[.string s,.int .i64 0,.int .i64 2,.int .i64 1])∧Below w.heap.size w w':=by
 go_enter Try.func84,Try.ntmps84
 go_wp2
 exact bodyPost_ret (v:=.agg #[.string s,.int .i64 0,.int .i64 2,.int .i64 1]) (by simp[results,Try.results84,go_sem]) rfl
  ⟨rfl,by first|exact ((Below.refl _ _).alloc (Nat.le_refl _) _).setCell (by simp) _|exact (Below.refl _ _).alloc (Nat.le_refl _) _⟩
theorem one_any (s:ByteArray) (w:World):
  Calls Try.prog 85 #[.string s] w fun e w'=>e= .returned (.agg #[.string s,.int .i64 0,.int .i64 1,.int .i64 1])∧Below w.heap.size w w':=by
 go_enter Try.func85,Try.ntmps85
 go_wp2
 exact bodyPost_ret (v:=.agg #[.string s,.int .i64 0,.int .i64 1,.int .i64 1]) (by simp[results,Try.results85,go_sem]) rfl
  ⟨rfl,by first|exact ((Below.refl _ _).alloc (Nat.le_refl _) _).setCell (by simp) _|exact (Below.refl _ _).alloc (Nat.le_refl _) _⟩
end
section
def shapeTab:List (List UInt8×Int×Int×Int):=
 [([110,111,112],0,0,0),
  ([104,97,108,116],0,1,0),
  ([97,98,111,114,116],0,1,0),
  ([110,117,109],1,0,1),
  ([112,111,112],0,1,0),
  ([99,111,112,121],6,0,1),
  ([115,119,97,112],0,2,2),
  ([103,101,116],2,0,1),
  ([115,101,116],2,1,0),
  ([108,111,97,100],0,1,1),
  ([115,116,111,114,101],0,2,0),
  ([108,111,97,100,56],0,1,1),
  ([115,116,111,114,101,56],0,2,0),
  ([115,105,122,101],0,0,1),
  ([106,117,109,112],3,0,0),
  ([122,101,114,111],3,1,0),
  ([110,111,116,122,101,114,111],3,1,0),
  ([99,97,108,108],4,(-1),(-1)),
  ([114,101,116],0,(-1),0),
  ([115,121,115],5,(-1),1),
  ([97,100,100],0,2,1),
  ([115,117,98],0,2,1),
  ([109,117,108],0,2,1),
  ([100,105,118],0,2,1),
  ([114,101,109],0,2,1),
  ([97,110,100],0,2,1),
  ([111,114],0,2,1),
  ([120,111,114],0,2,1),
  ([115,104,108],0,2,1),
  ([115,104,114],0,2,1),
  ([117,115,104,114],0,2,1),
  ([101,113],0,2,1),
  ([108,116],0,2,1),
  ([117,108,116],0,2,1),
  ([110,101,103],0,1,1),
  ([110,111,116],0,1,1),
  ([102,97,100,100],0,2,1),
  ([102,115,117,98],0,2,1),
  ([102,109,117,108],0,2,1),
  ([102,100,105,118],0,2,1),
  ([102,101,113],0,2,1),
  ([102,108,116],0,2,1),
  ([102,110,101,103],0,1,1),
  ([102,114,111,111,116],0,1,1),
  ([116,111,102],0,1,1),
  ([116,111,105],0,1,1)]
def callTab:List (List UInt8×Int×Int×Int):=
 [([111,112,101,110],0,3,1),
  ([114,101,97,100],0,3,1),
  ([119,114,105,116,101],0,3,1),
  ([108,105,115,116],0,4,1),
  ([99,108,111,115,101],0,1,1)]
def rowCells (r:List UInt8×Int×Int×Int):List Value:=[.string ⟨r.1.toArray⟩,.int .i64 r.2.1,.int .i64 r.2.2.1,.int .i64 r.2.2.2]
def tabCells (t:List (List UInt8×Int×Int×Int)):List Value:=t.flatMap rowCells
def rowVal (r:List UInt8×Int×Int×Int):Value:=.agg #[.string ⟨r.1.toArray⟩,.int .i64 r.2.1,.int .i64 r.2.2.1,.int .i64 r.2.2.2]
theorem tabCells_get (t:List (List UInt8×Int×Int×Int)):∀(i j:Nat) (r:List UInt8×Int×Int×Int),t[i]?=some r→j<4→(tabCells t)[4*i+j]?=(rowCells r)[j]?:=by
 induction t with
 |nil=>intro i j r h;simp at h
 |cons a t ih=>
  intro i j r h hj;have hl:(rowCells a).length=4:=rfl;cases i with
  |zero=>
   simp only[List.getElem?_cons_zero,Option.some.injEq] at h;subst h;simp only[tabCells,List.flatMap_cons];rw[List.getElem?_append_left (by omega)]
   simp
  |succ i=>
   simp only[List.getElem?_cons_succ] at h;have:=ih i j r h hj;simp only[tabCells,List.flatMap_cons] at this ⊢;rw[List.getElem?_append_right (by omega),hl, ←this]
   congr 1
   omega
end
section
open Go.RowKit
theorem build_calls (w:World):(Instr.buildSlice 122 5 #[(0,Value.agg #[Value.string ⟨#[111,112,101,110]⟩,.int .i64 0,.int .i64 3,.int .i64 1]),
 (1,Value.agg #[Value.string ⟨#[114,101,97,100]⟩,.int .i64 0,.int .i64 3,.int .i64 1]),
 (2,Value.agg #[Value.string ⟨#[119,114,105,116,101]⟩,.int .i64 0,.int .i64 3,.int .i64 1]),
 (3,Value.agg #[Value.string ⟨#[108,105,115,116]⟩,.int .i64 0,.int .i64 4,.int .i64 1]),
 (4,Value.agg #[Value.string ⟨#[99,108,111,115,101]⟩,.int .i64 0,.int .i64 1,.int .i64 1])]).run Try.prog w
 = .ok (.slice (some ⟨w.heap.size,0,none⟩) 5 5) (w.alloc (.cells (tabCells callTab).toArray 89)):=by kernel_rfl
theorem calls_any (w:World):
  Calls Try.prog 70 #[] w fun e w'=>∃g,e= .returned (.slice (some ⟨g,0,none⟩) 5 5)∧w.heap.size≤g∧w'.heap[g]?=some (.cells (tabCells callTab).toArray 89)∧Below w.heap.size w w':=by
 have hbs:=build_calls
 go_enter Try.func70,Try.ntmps70
 go_wp2
 go_ret
 exact ⟨_,rfl,Nat.le_refl _,heap_alloc_new _ _,(Below.refl _ _).alloc (Nat.le_refl _) _⟩
set_option maxHeartbeats 4000000 in
set_option maxRecDepth 100000 in
theorem shapes_any (w:World):
  Calls Try.prog 71 #[] w fun e w'=>∃g,e= .returned (.slice (some ⟨g,0,none⟩) 46 46)∧w.heap.size≤g∧w'.heap[g]?=some (.cells (tabCells shapeTab).toArray 89)∧Below w.heap.size w w':=by
 have hB:=Below.refl w.heap.size w
 go_enter Try.func71,Try.ntmps71
 go_wp2_with (first
  |(go_at_call 84;refine (two_any _ _).mono ?_;rintro e w' ⟨rfl,hb⟩;replace hB:=hB.trans (hb.mono hB.size);clear hb)
  |(go_at_call 85;refine (one_any _ _).mono ?_;rintro e w' ⟨rfl,hb⟩;replace hB:=hB.trans (hb.mono hB.size);clear hb))
 refine wp_of_run (v:=.slice (some ⟨w'.heap.size,0,none⟩) 46 46) (w':=World.alloc w' (.cells (tabCells shapeTab).toArray 89)) (by kernel_rfl) ?_
 simp only[Act.put,List.setIfInBounds_toArray,List.set_cons_succ,List.set_cons_zero]
 go_wp2
 go_ret
 exact ⟨_,rfl,hB.size,heap_alloc_new _ _,hB.alloc hB.size _⟩
end
section
open Go.RowKit
theorem row_out (g n:Nat) (i:Int) (w:World) (h: ¬ (0≤i∧i<n)):
  Calls Try.prog 69 #[.slice (some ⟨g,0,none⟩) n n,.int .i64 i] w fun e w'=>e= .returned (.tuple #[rowVal ([],0,0,0),.bool false])∧Below w.heap.size w w':=by
 by_cases h0:i<0
 ·go_enter Try.func69,Try.ntmps69
  go_wp2
  refine bodyPost_ret (v:=.tuple #[rowVal ([],0,0,0),.bool false]) ?_ rfl ⟨rfl,?_⟩
  ·simp[results,Try.results69,go_sem,rowVal]
  exact ((Below.refl _ _).alloc (Nat.le_refl _) _)
 ·have h1: ¬ i<(n:Int):=by omega
  go_enter Try.func69,Try.ntmps69
  go_wp2
  refine bodyPost_ret (v:=.tuple #[rowVal ([],0,0,0),.bool false]) ?_ rfl ⟨rfl,?_⟩
  ·simp[results,Try.results69,go_sem,rowVal]
  exact ((Below.refl _ _).alloc (Nat.le_refl _) _)
theorem row_in (g n i:Nat) (w:World) (r:List UInt8×Int×Int×Int) (h:i<n) (_hn:n≤1000) (hg:g<w.heap.size)
  (hc0:w.cell? ⟨g,i*4,none⟩=some (.string ⟨r.1.toArray⟩)) (hc1:w.cell? ⟨g,i*4+1,none⟩=some (.int .i64 r.2.1))
  (hc2:w.cell? ⟨g,i*4+2,none⟩=some (.int .i64 r.2.2.1)) (hc3:w.cell? ⟨g,i*4+3,none⟩=some (.int .i64 r.2.2.2)):
  Calls Try.prog 69 #[.slice (some ⟨g,0,none⟩) n n,.int .i64 i] w fun e w'=>e= .returned (.tuple #[rowVal r,.bool true])∧Below w.heap.size w w':=by
 have h0: ¬ (i:Int)<0:=by omega
 have h1:(i:Int)<(n:Int):=by omega
 go_enter Try.func69,Try.ntmps69
 go_wp2
 refine bodyPost_ret (v:=.tuple #[rowVal r,.bool true]) ?_ rfl ⟨rfl,?_⟩
 ·simp[results,Try.results69,go_sem,rowVal]
 ·exact ((Below.refl _ _).alloc (Nat.le_refl _) _)
def TabAt (w:World) (g:Nat) (t:List (List UInt8×Int×Int×Int)):Prop:=w.heap[g]?=some (.cells (tabCells t).toArray 89)
theorem TabAt.lt {w:World} {g:Nat} {t:List (List UInt8×Int×Int×Int)} (h:TabAt w g t):g<w.heap.size:=by
 rcases Nat.lt_or_ge g w.heap.size with hlt|hge
 ·exact hlt
 unfold TabAt at h;rw[Array.getElem?_eq_none hge] at h;cases h
theorem TabAt.cell {w:World} {g:Nat} {t:List (List UInt8×Int×Int×Int)} (h:TabAt w g t) {i j:Nat} {r:List UInt8×Int×Int×Int} (hi:t[i]?=some r) (hj:j<4):
  w.cell? ⟨g,i*4+j,none⟩=(rowCells r)[j]?:=by
 unfold TabAt at h
 simp only[World.cell?,h]
 rw[←tabCells_get t i j r hi hj]
 simp[Nat.mul_comm]
theorem TabAt.below {w w':World} {g:Nat} {t:List (List UInt8×Int×Int×Int)} (h:TabAt w g t) (hb:Below w.heap.size w w'):TabAt w' g t:=(hb.block g h.lt).trans h
def rowAt (t:List (List UInt8×Int×Int×Int)) (i:Int):(List UInt8×Int×Int×Int)×Bool:=
 if 0≤i then (match t[i.toNat]? with|some r=>(r,true)|none=>(([],0,0,0),false)) else (([],0,0,0),false)
theorem row_any (g n:Nat) (i:Int) (w:World) (t:List (List UInt8×Int×Int×Int)) (hn:n=t.length) (hl:n≤1000) (ht:TabAt w g t):
  Calls Try.prog 69 #[.slice (some ⟨g,0,none⟩) n n,.int .i64 i] w fun e w'=>e= .returned (.tuple #[rowVal (rowAt t i).1,.bool (rowAt t i).2])∧Below w.heap.size w w':=by
 by_cases h:0≤i∧i<n
 ·obtain ⟨h0,h1⟩:=h;obtain ⟨k,rfl⟩:=Int.eq_ofNat_of_zero_le h0;have hk:k<t.length:=by omega
  have hr:t[k]?=some t[k]:=List.getElem?_eq_getElem hk;have e:rowAt t k=(t[k],true):=by simp[rowAt,hr]
  rw[e];exact row_in g n k w t[k] (by omega) hl ht.lt (ht.cell (j:=0) hr (by omega)) (ht.cell (j:=1) hr (by omega)) (ht.cell (j:=2) hr (by omega)) (ht.cell (j:=3) hr (by omega))
 ·have e:rowAt t i=(([],0,0,0),false):=by
   unfold rowAt;split
   ·rw[List.getElem?_eq_none (by omega)]
   rfl
  rw[e];exact row_out g n i w h
end
section
open Go.RowKit
attribute [local go_sem] rowVal
theorem of_any (i:Int) (w:World):
  Calls Try.prog 45 #[.int .i64 i] w fun e w'=>e= .returned (.tuple #[rowVal (rowAt shapeTab i).1,.bool (rowAt shapeTab i).2])∧Below w.heap.size w w':=by
 go_enter Try.func45,Try.ntmps45
 go_wp2_with (first
  |(go_at_call 71;refine (shapes_any _).mono ?_;rintro e w1 ⟨g,rfl,hg,ht0,hb⟩;have ht:TabAt w1 g shapeTab:=ht0;clear ht0;obtain ⟨hc1,hf1⟩:=bcell hb;have hz:w.heap.size<w1.heap.size:=by have:=hb.size;simp only[World.size_alloc] at this;omega)
  |(go_at_call 69;refine (row_any g 46 i w1 shapeTab rfl (by omega) ht).mono ?_;rintro e w2 ⟨rfl,hb2⟩;obtain ⟨hc2,hf2⟩:=bcell hb2))
 have hB:Below w.heap.size w w2:=((Below.refl _ _).alloc (Nat.le_refl _) _).trans ((hb.mono (by simp)).trans (hb2.mono (by omega)))
 refine bodyPost_ret (v:=.tuple #[rowVal (rowAt shapeTab i).1,.bool (rowAt shapeTab i).2]) ?_ rfl ⟨rfl,?_⟩
 ·simp[results,Try.results45,go_sem,hc2,hc1,hz]
 ·exact (((hB.setCell (Nat.le_refl _) _).setCell (Nat.le_refl _) _).setCell (Nat.le_refl _) _).setCell (Nat.le_refl _) _
theorem sys_any (i:Int) (w:World):
  Calls Try.prog 44 #[.int .i64 i] w fun e w'=>e= .returned (.tuple #[rowVal (rowAt callTab i).1,.bool (rowAt callTab i).2])∧Below w.heap.size w w':=by
 go_enter Try.func44,Try.ntmps44
 go_wp2_with (first
  |(go_at_call 70;refine (calls_any _).mono ?_;rintro e w1 ⟨g,rfl,hg,ht0,hb⟩;have ht:TabAt w1 g callTab:=ht0;clear ht0;obtain ⟨hc1,hf1⟩:=bcell hb;have hz:w.heap.size<w1.heap.size:=by have:=hb.size;simp only[World.size_alloc] at this;omega)
  |(go_at_call 69;refine (row_any g 5 i w1 callTab rfl (by omega) ht).mono ?_;rintro e w2 ⟨rfl,hb2⟩;obtain ⟨hc2,hf2⟩:=bcell hb2))
 have hB:Below w.heap.size w w2:=((Below.refl _ _).alloc (Nat.le_refl _) _).trans ((hb.mono (by simp)).trans (hb2.mono (by omega)))
 refine bodyPost_ret (v:=.tuple #[rowVal (rowAt callTab i).1,.bool (rowAt callTab i).2]) ?_ rfl ⟨rfl,?_⟩
 ·simp[results,Try.results44,go_sem,hc2,hc1,hz]
 ·exact (((hB.setCell (Nat.le_refl _) _).setCell (Nat.le_refl _) _).setCell (Nat.le_refl _) _).setCell (Nat.le_refl _) _
end
end Go.Proofs.Ytcmpmhlcfalbhaa
