import Derived.Test.YtcmpmhlcfalbhaaV03
import Derived.Test.YtcmpmhlcfalbhaaV02
import Derived.Test.YtcmpmhlcfalbhaaV07
namespace Go.Proofs.Ytcmpmhlcfalbhaa
section
open Go.RowKit
def wordF (s:List UInt8):Nat→Nat→Nat→Nat→List UInt8
 |0,_,_,_=>[]
 |k+1,i,fr,n=>if i<s.length then (if (s.getD i 0).toNat=32 then (if n=0 then (s.drop fr).take (i-fr) else wordF s k (i+1) (i+1) (n-1)) else wordF s k (i+1) fr n) else []
def wordL (s:List UInt8) (n:Nat):List UInt8:=wordF s (s.length+1) 0 0 n
set_option maxRecDepth 100000 in
theorem word_any (s:List UInt8) (n:Nat) (w:World) (hs:s.length≤1000) (hn:n≤1000):Calls Try.prog 77 #[.string ⟨s.toArray⟩,.int .i64 (n:Int)] w fun e w'=>e= .returned (.string ⟨(wordL s n).toArray⟩)∧w'=w:=by
 obtain ⟨R,hR⟩:∃R,R=wordL s n:=⟨_,rfl⟩;rw[←hR];have HR:=Lib.hid (show R=wordF s (s.length+1) 0 0 n from hR)
 clear hR;go_enter Try.func77,Try.ntmps77
 go_wp2_with fail
 go_loop [1,5,6] (fun vn vf vi=>∃i fr m k:Nat,vn= .int .i64 (m:Int)∧vf= .int .i64 (fr:Int)∧vi= .int .i64 (i:Int)∧fr≤i∧i≤s.length∧m≤1000∧s.length-i<k∧Hid (R=wordF s k i fr m)) (fun _ _ vi=>s.length-(intOf vi).toNat)
 case atStart=>exact ⟨0,0,n,s.length+1,rfl,rfl,rfl,by omega,by omega,hn,by omega,HR⟩
 obtain ⟨i,fr,m,k,rfl,rfl,rfl,h1,h2,h3,h4,hk⟩:=hrel;obtain ⟨k,rfl⟩:∃k',k=k'+1:=⟨k-1,by omega⟩
 have hk2:=hk.out;unfold wordF at hk2;by_cases hi:i<s.length
 ·rw[if_pos hi] at hk2;obtain ⟨c,hc⟩:∃c,c=s.getD i 0:=⟨_,rfl⟩;rw[←hc] at hk2
  have hsx:∀w',(Instr.index 9 (.string ⟨s.toArray⟩) (.int .i64 (i:Int))).run Try.prog w'= .ok (.int .u8 (c.toNat:Int)) w':=fun w'=>by
   rw[run_index_string w' _ _ _ _ Try.underlying9,dif_pos ⟨by omega,by rw[show (⟨s.toArray⟩:ByteArray).size=s.length from by simp[ByteArray.size]];omega⟩]
   congr 3
   rw[hc,List.getD_eq_getElem?_getD,List.getElem?_eq_getElem hi];rfl
  have hex:(⟨s.toArray⟩:ByteArray).extract fr i=⟨((s.drop fr).take (i-fr)).toArray⟩:=by
   apply ByteArray.ext;simp
  have Hex:=Lib.hid hex;clear hc hex;have hc8:=c.toNat_lt;generalize c.toNat=x at*
  by_cases h32:x=32
  ·rw[if_pos h32] at hk2;subst h32;by_cases hm:m=0
   ·rw[if_pos hm] at hk2;subst hm;have Hk2:=Lib.hid hk2;clear hk2 hk;go_wp2_with fail
    go_ret
    exact ⟨by rw[Hk2.out, ←Hex.out];rfl,rfl⟩
   rw[if_neg hm] at hk2;have Hk2:=Lib.hid hk2;obtain ⟨m,rfl⟩:∃m',m=m'+1:=⟨m-1,by omega⟩
   have g1: ¬ ((m+1:Nat):Int)=0:=by omega
   rw[Nat.add_sub_cancel] at Hk2;clear hk2 hk;go_wp2_with fail
   exact ⟨⟨i+1,i+1,m,k,by go_num,by go_num,by go_num,by omega,by omega,by omega,by omega,Hk2⟩,by simp[intOf];omega⟩
  rw[if_neg h32] at hk2;have Hk2:=Lib.hid hk2;have g1: ¬ (x:Int)=32:=by omega
  clear hk2 hk;go_wp2_with fail
  exact ⟨⟨i+1,fr,m,k,rfl,rfl,by go_num,by omega,by omega,by omega,by omega,Hk2⟩,by simp[intOf];omega⟩
 rw[if_neg hi] at hk2;have Hk2:=Lib.hid hk2;clear hk2 hk;go_wp2_with fail
 rw[Hk2.out];go_ret
 exact ⟨rfl,rfl⟩
end
section
open Go.RowKit
theorem nats46 (n:Nat) (h:n<46):n=0∨n=1∨n=2∨n=3∨n=4∨n=5∨n=6∨n=7∨n=8∨n=9∨n=10∨n=11∨n=12∨n=13∨n=14∨n=15∨n=16∨n=17∨n=18∨n=19∨n=20∨n=21∨n=22∨n=23∨n=24∨n=25∨n=26∨n=27∨n=28∨n=29∨n=30∨n=31∨n=32∨n=33∨n=34∨n=35∨n=36∨n=37∨n=38∨n=39∨n=40∨n=41∨n=42∨n=43∨n=44∨n=45:=by omega
def operN (n:Int):Int:=if n=3 then 1 else if n=5 then 6 else if n=7∨n=8 then 2 else if n=14∨n=15∨n=16 then 3 else if n=17 then 4 else if n=19 then 5 else 0
set_option maxRecDepth 100000 in
theorem refOperand_any (n:Int) (w:World):Calls Try.prog 78 #[.int .i64 n] w fun e w'=>e= .returned (.int .i64 (operN n))∧w'=w:=by
 have key:n=3∨n=5∨n=7∨n=8∨n=14∨n=15∨n=16∨n=17∨n=19∨(¬ n=3∧¬ n=5∧¬ n=7∧¬ n=8∧¬ n=14∧¬ n=15∧¬ n=16∧¬ n=17∧¬ n=19):=by omega
 rcases key with rfl|rfl|rfl|rfl|rfl|rfl|rfl|rfl|rfl|⟨h1,h2,h3,h4,h5,h6,h7,h8,h9⟩
 rotate_left 9
 ·have e:operN n=0:=by unfold operN;simp[h1,h2,h3,h4,h5,h6,h7,h8,h9]
  rw[e];clear e;go_enter Try.func78,Try.ntmps78
  go_wp2_with fail
  go_ret
  exact ⟨rfl,rfl⟩
 all_goals
  go_enter Try.func78,Try.ntmps78
  go_wp2_with fail
  go_ret
  exact ⟨rfl,rfl⟩
theorem kinds_oper:((List.range 46).all fun n=>(rowAt shapeTab (n:Int)).1.2.1==operN (n:Int))=true:=by decide+kernel
theorem oper_kind (n:Nat) (hn:n<46):operN (n:Int)=(rowAt shapeTab (n:Int)).1.2.1:=by
 have h:=List.all_eq_true.1 kinds_oper n (List.mem_range.2 hn);have h':(rowAt shapeTab (n:Int)).1.2.1=operN (n:Int):=by simpa using h
 exact h'.symm
set_option maxRecDepth 100000 in
theorem refMay_any (kd:Nat) (a:Int) (w:World) (hk:kd≤6):Calls Try.prog 75 #[.int .i64 (kd:Int),.int .i64 a] w fun e w'=>e= .returned (.bool (mayB kd a))∧w'=w:=by
 have key:kd=1∨kd=2∨kd=3∨kd=4∨kd=5∨kd=6∨kd=0:=by omega
 have e0:(a==0)=decide (a=0):=by by_cases h:a=0<;>simp[h]
 have He0:=Lib.hid e0;clear e0;by_cases h0:0≤a
 case pos=>
  rcases key with rfl|rfl|rfl|rfl|rfl|rfl|rfl
  all_goals
   go_enter Try.func75,Try.ntmps75
   go_wp2_with fail
   go_ret
   exact ⟨by simp[mayB,mostL,h0,He0.out],rfl⟩
 have h1:decide (0≤a)=false:=by simpa using h0
 rcases key with rfl|rfl|rfl|rfl|rfl|rfl|rfl
 all_goals
  go_enter Try.func75,Try.ntmps75
  go_wp2_with fail
  go_ret
  exact ⟨by simp[mayB,mostL,h1,He0.out],rfl⟩
end
section
open Go.RowKit
attribute [local go_sem] rowVal
def namesL:List UInt8:=[110,111,112,32,104,97,108,116,32,97,98,111,114,116,32,110,117,109,32,112,111,112,32,99,111,112,121,32,115,119,97,112,32,103,101,116,32,115,101,116,32,108,111,97,100,32,115,116,111,114,101,32,108,111,97,100,56,32,115,116,111,114,101,56,32,115,105,122,101,32,106,117,109,112,32,122,101,114,111,32,110,111,116,122,101,114,111,32,99,97,108,108,32,114,101,116,32,115,121,115,32,97,100,100,32,115,117,98,32,109,117,108,32,100,105,118,32,114,101,109,32,97,110,100,32,111,114,32,120,111,114,32,115,104,108,32,115,104,114,32,117,115,104,114,32,101,113,32,108,116,32,117,108,116,32,110,101,103,32,110,111,116,32,102,97,100,100,32,102,115,117,98,32,102,109,117,108,32,102,100,105,118,32,102,101,113,32,102,108,116,32,102,110,101,103,32,102,114,111,111,116,32,116,111,102,32,116,111,105,32]
def callsL:List UInt8:=[111,112,101,110,32,114,101,97,100,32,119,114,105,116,101,32,108,105,115,116,32,99,108,111,115,101,32]
theorem names_words:((List.range 46).all fun n=>wordL namesL n==(rowAt shapeTab (n:Int)).1.1)=true:=by decide+kernel
theorem calls_words:((List.range 5).all fun n=>wordL callsL n==(rowAt callTab (n:Int)).1.1)=true:=by decide+kernel
theorem names_word (n:Nat) (hn:n<46):wordL namesL n=(rowAt shapeTab (n:Int)).1.1:=by
 have h:=List.all_eq_true.1 names_words n (List.mem_range.2 hn);simpa using h
theorem calls_word (n:Nat) (hn:n<5):wordL callsL n=(rowAt callTab (n:Int)).1.1:=by
 have h:=List.all_eq_true.1 calls_words n (List.mem_range.2 hn);simpa using h
def OfPost (w:World) (t:List (List UInt8×Int×Int×Int)) (op:Int) (e:Ending) (w':World):Prop:=e= .returned (.tuple #[rowVal (rowAt t op).1,.bool (rowAt t op).2])∧Below w.heap.size w w'
set_option maxRecDepth 100000 in
theorem refOf_out (op:Int) (w:World) (h:op<0∨46≤op):Calls Try.prog 58 #[.int .i64 op] w (OfPost w shapeTab op):=by
 have e:rowAt shapeTab op=(([],0,0,0),false):=by
  unfold rowAt;split
  ·rw[List.getElem?_eq_none (by
    have:shapeTab.length=46:=by decide+kernel
    omega)]
  rfl
 have He:=Lib.hid e;clear e;rcases h with h|h
 ·go_enter Try.func58,Try.ntmps58
  go_wp2_with fail
  refine bodyPost_ret (v:=.tuple #[rowVal ([],0,0,0),.bool false]) ?_ rfl ⟨by rw[He.out],(Below.refl _ _).alloc (Nat.le_refl _) _⟩
  simp[results,Try.results58,go_sem]
 have h0:decide (op<0)=false:=decide_eq_false (by omega)
 go_enter Try.func58,Try.ntmps58
 go_wp2_with fail
 refine bodyPost_ret (v:=.tuple #[rowVal ([],0,0,0),.bool false]) ?_ rfl ⟨by rw[He.out],(Below.refl _ _).alloc (Nat.le_refl _) _⟩
 simp[results,Try.results58,go_sem]
theorem row_mk {r:(List UInt8×Int×Int×Int)×Bool} {nm:List UInt8} {o t g:Int} (h1:r.1.1=nm) (h2:r.1.2.1=o) (h3:r.1.2.2=(t,g)) (h4:r.2=true):r=((nm,o,t,g),true):=by
 obtain ⟨⟨a,b,c,d⟩,e⟩:=r;simp only at h1 h2 h3 h4;injection h3 with h5 h6
 subst h1 h2 h4 h5 h6;rfl
set_option maxRecDepth 100000 in
set_option maxHeartbeats 8000000 in
theorem refOf_in (n:Nat) (w:World) (h:n<46):Calls Try.prog 58 #[.int .i64 (n:Int)] w (OfPost w shapeTab (n:Int)):=by
 have hw:=names_word n h;have ho:=oper_kind n h;obtain ⟨nm,hnm⟩:∃nm,(rowAt shapeTab (n:Int)).1.1=nm:=⟨_,rfl⟩;obtain ⟨o,hoo⟩:∃o,(rowAt shapeTab (n:Int)).1.2.1=o:=⟨_,rfl⟩;rw[hnm] at hw;rw[hoo] at ho;have hword:=fun w=>word_any namesL n w (by decide) (by omega)
 have hoper:=fun w=>refOperand_any (n:Int) w;rw[hw] at hword;rw[ho] at hoper;have Hword:=Lib.hid hword;have Hoper:=Lib.hid hoper;have Hnm:=Lib.hid hnm;have Hoo:=Lib.hid hoo;clear hw ho hword hoper hnm hoo;have hk:=nats46 n h;clear h;rcases hk with rfl|rfl|rfl|rfl|rfl|rfl|rfl|rfl|rfl|rfl|rfl|rfl|rfl|rfl|rfl|rfl|rfl|rfl|rfl|rfl|rfl|rfl|rfl|rfl|rfl|rfl|rfl|rfl|rfl|rfl|rfl|rfl|rfl|rfl|rfl|rfl|rfl|rfl|rfl|rfl|rfl|rfl|rfl|rfl|rfl|rfl
 ·go_enter Try.func58,Try.ntmps58
  go_wp2_with fail
  refine (Hword.out _).mono ?_;rintro e w1 ⟨rfl,rfl⟩;go_wp2_with fail
  refine (Hoper.out _).mono ?_;rintro e w1 ⟨rfl,rfl⟩;go_wp2_with fail
  refine bodyPost_ret (v:=.tuple #[.agg #[.string ⟨nm.toArray⟩,.int .i64 o,.int .i64 (0),.int .i64 (0)],.bool true]) ?_ rfl ⟨?_,((Below.refl _ _).alloc (Nat.le_refl _) _).alloc (by simp) _⟩
  ·simp[results,Try.results58,go_sem]
  rw[row_mk Hnm.out Hoo.out (show _=(0,0) by decide+kernel) (by decide+kernel)];rfl
 ·go_enter Try.func58,Try.ntmps58
  go_wp2_with fail
  refine (Hword.out _).mono ?_;rintro e w1 ⟨rfl,rfl⟩;go_wp2_with fail
  refine (Hoper.out _).mono ?_;rintro e w1 ⟨rfl,rfl⟩;go_wp2_with fail
  refine bodyPost_ret (v:=.tuple #[.agg #[.string ⟨nm.toArray⟩,.int .i64 o,.int .i64 (1),.int .i64 (0)],.bool true]) ?_ rfl ⟨?_,((Below.refl _ _).alloc (Nat.le_refl _) _).alloc (by simp) _⟩
  ·simp[results,Try.results58,go_sem]
  rw[row_mk Hnm.out Hoo.out (show _=(1,0) by decide+kernel) (by decide+kernel)];rfl
 ·go_enter Try.func58,Try.ntmps58
  go_wp2_with fail
  refine (Hword.out _).mono ?_;rintro e w1 ⟨rfl,rfl⟩;go_wp2_with fail
  refine (Hoper.out _).mono ?_;rintro e w1 ⟨rfl,rfl⟩;go_wp2_with fail
  refine bodyPost_ret (v:=.tuple #[.agg #[.string ⟨nm.toArray⟩,.int .i64 o,.int .i64 (1),.int .i64 (0)],.bool true]) ?_ rfl ⟨?_,((Below.refl _ _).alloc (Nat.le_refl _) _).alloc (by simp) _⟩
  ·simp[results,Try.results58,go_sem]
  rw[row_mk Hnm.out Hoo.out (show _=(1,0) by decide+kernel) (by decide+kernel)];rfl
 ·go_enter Try.func58,Try.ntmps58
  go_wp2_with fail
  refine (Hword.out _).mono ?_;rintro e w1 ⟨rfl,rfl⟩;go_wp2_with fail
  refine (Hoper.out _).mono ?_;rintro e w1 ⟨rfl,rfl⟩;go_wp2_with fail
  refine bodyPost_ret (v:=.tuple #[.agg #[.string ⟨nm.toArray⟩,.int .i64 o,.int .i64 (0),.int .i64 (1)],.bool true]) ?_ rfl ⟨?_,((Below.refl _ _).alloc (Nat.le_refl _) _).alloc (by simp) _⟩
  ·simp[results,Try.results58,go_sem]
  rw[row_mk Hnm.out Hoo.out (show _=(0,1) by decide+kernel) (by decide+kernel)];rfl
 ·go_enter Try.func58,Try.ntmps58
  go_wp2_with fail
  refine (Hword.out _).mono ?_;rintro e w1 ⟨rfl,rfl⟩;go_wp2_with fail
  refine (Hoper.out _).mono ?_;rintro e w1 ⟨rfl,rfl⟩;go_wp2_with fail
  refine bodyPost_ret (v:=.tuple #[.agg #[.string ⟨nm.toArray⟩,.int .i64 o,.int .i64 (1),.int .i64 (0)],.bool true]) ?_ rfl ⟨?_,((Below.refl _ _).alloc (Nat.le_refl _) _).alloc (by simp) _⟩
  ·simp[results,Try.results58,go_sem]
  rw[row_mk Hnm.out Hoo.out (show _=(1,0) by decide+kernel) (by decide+kernel)];rfl
 ·go_enter Try.func58,Try.ntmps58
  go_wp2_with fail
  refine (Hword.out _).mono ?_;rintro e w1 ⟨rfl,rfl⟩;go_wp2_with fail
  refine (Hoper.out _).mono ?_;rintro e w1 ⟨rfl,rfl⟩;go_wp2_with fail
  refine bodyPost_ret (v:=.tuple #[.agg #[.string ⟨nm.toArray⟩,.int .i64 o,.int .i64 (0),.int .i64 (1)],.bool true]) ?_ rfl ⟨?_,((Below.refl _ _).alloc (Nat.le_refl _) _).alloc (by simp) _⟩
  ·simp[results,Try.results58,go_sem]
  rw[row_mk Hnm.out Hoo.out (show _=(0,1) by decide+kernel) (by decide+kernel)];rfl
 ·go_enter Try.func58,Try.ntmps58
  go_wp2_with fail
  refine (Hword.out _).mono ?_;rintro e w1 ⟨rfl,rfl⟩;go_wp2_with fail
  refine (Hoper.out _).mono ?_;rintro e w1 ⟨rfl,rfl⟩;go_wp2_with fail
  refine bodyPost_ret (v:=.tuple #[.agg #[.string ⟨nm.toArray⟩,.int .i64 o,.int .i64 (2),.int .i64 (2)],.bool true]) ?_ rfl ⟨?_,((Below.refl _ _).alloc (Nat.le_refl _) _).alloc (by simp) _⟩
  ·simp[results,Try.results58,go_sem]
  rw[row_mk Hnm.out Hoo.out (show _=(2,2) by decide+kernel) (by decide+kernel)];rfl
 ·go_enter Try.func58,Try.ntmps58
  go_wp2_with fail
  refine (Hword.out _).mono ?_;rintro e w1 ⟨rfl,rfl⟩;go_wp2_with fail
  refine (Hoper.out _).mono ?_;rintro e w1 ⟨rfl,rfl⟩;go_wp2_with fail
  refine bodyPost_ret (v:=.tuple #[.agg #[.string ⟨nm.toArray⟩,.int .i64 o,.int .i64 (0),.int .i64 (1)],.bool true]) ?_ rfl ⟨?_,((Below.refl _ _).alloc (Nat.le_refl _) _).alloc (by simp) _⟩
  ·simp[results,Try.results58,go_sem]
  rw[row_mk Hnm.out Hoo.out (show _=(0,1) by decide+kernel) (by decide+kernel)];rfl
 ·go_enter Try.func58,Try.ntmps58
  go_wp2_with fail
  refine (Hword.out _).mono ?_;rintro e w1 ⟨rfl,rfl⟩;go_wp2_with fail
  refine (Hoper.out _).mono ?_;rintro e w1 ⟨rfl,rfl⟩;go_wp2_with fail
  refine bodyPost_ret (v:=.tuple #[.agg #[.string ⟨nm.toArray⟩,.int .i64 o,.int .i64 (1),.int .i64 (0)],.bool true]) ?_ rfl ⟨?_,((Below.refl _ _).alloc (Nat.le_refl _) _).alloc (by simp) _⟩
  ·simp[results,Try.results58,go_sem]
  rw[row_mk Hnm.out Hoo.out (show _=(1,0) by decide+kernel) (by decide+kernel)];rfl
 ·go_enter Try.func58,Try.ntmps58
  go_wp2_with fail
  refine (Hword.out _).mono ?_;rintro e w1 ⟨rfl,rfl⟩;go_wp2_with fail
  refine (Hoper.out _).mono ?_;rintro e w1 ⟨rfl,rfl⟩;go_wp2_with fail
  refine bodyPost_ret (v:=.tuple #[.agg #[.string ⟨nm.toArray⟩,.int .i64 o,.int .i64 (1),.int .i64 (1)],.bool true]) ?_ rfl ⟨?_,((Below.refl _ _).alloc (Nat.le_refl _) _).alloc (by simp) _⟩
  ·simp[results,Try.results58,go_sem]
  rw[row_mk Hnm.out Hoo.out (show _=(1,1) by decide+kernel) (by decide+kernel)];rfl
 ·go_enter Try.func58,Try.ntmps58
  go_wp2_with fail
  refine (Hword.out _).mono ?_;rintro e w1 ⟨rfl,rfl⟩;go_wp2_with fail
  refine (Hoper.out _).mono ?_;rintro e w1 ⟨rfl,rfl⟩;go_wp2_with fail
  refine bodyPost_ret (v:=.tuple #[.agg #[.string ⟨nm.toArray⟩,.int .i64 o,.int .i64 (2),.int .i64 (0)],.bool true]) ?_ rfl ⟨?_,((Below.refl _ _).alloc (Nat.le_refl _) _).alloc (by simp) _⟩
  ·simp[results,Try.results58,go_sem]
  rw[row_mk Hnm.out Hoo.out (show _=(2,0) by decide+kernel) (by decide+kernel)];rfl
 ·go_enter Try.func58,Try.ntmps58
  go_wp2_with fail
  refine (Hword.out _).mono ?_;rintro e w1 ⟨rfl,rfl⟩;go_wp2_with fail
  refine (Hoper.out _).mono ?_;rintro e w1 ⟨rfl,rfl⟩;go_wp2_with fail
  refine bodyPost_ret (v:=.tuple #[.agg #[.string ⟨nm.toArray⟩,.int .i64 o,.int .i64 (1),.int .i64 (1)],.bool true]) ?_ rfl ⟨?_,((Below.refl _ _).alloc (Nat.le_refl _) _).alloc (by simp) _⟩
  ·simp[results,Try.results58,go_sem]
  rw[row_mk Hnm.out Hoo.out (show _=(1,1) by decide+kernel) (by decide+kernel)];rfl
 ·go_enter Try.func58,Try.ntmps58
  go_wp2_with fail
  refine (Hword.out _).mono ?_;rintro e w1 ⟨rfl,rfl⟩;go_wp2_with fail
  refine (Hoper.out _).mono ?_;rintro e w1 ⟨rfl,rfl⟩;go_wp2_with fail
  refine bodyPost_ret (v:=.tuple #[.agg #[.string ⟨nm.toArray⟩,.int .i64 o,.int .i64 (2),.int .i64 (0)],.bool true]) ?_ rfl ⟨?_,((Below.refl _ _).alloc (Nat.le_refl _) _).alloc (by simp) _⟩
  ·simp[results,Try.results58,go_sem]
  rw[row_mk Hnm.out Hoo.out (show _=(2,0) by decide+kernel) (by decide+kernel)];rfl
 ·go_enter Try.func58,Try.ntmps58
  go_wp2_with fail
  refine (Hword.out _).mono ?_;rintro e w1 ⟨rfl,rfl⟩;go_wp2_with fail
  refine (Hoper.out _).mono ?_;rintro e w1 ⟨rfl,rfl⟩;go_wp2_with fail
  refine bodyPost_ret (v:=.tuple #[.agg #[.string ⟨nm.toArray⟩,.int .i64 o,.int .i64 (0),.int .i64 (1)],.bool true]) ?_ rfl ⟨?_,((Below.refl _ _).alloc (Nat.le_refl _) _).alloc (by simp) _⟩
  ·simp[results,Try.results58,go_sem]
  rw[row_mk Hnm.out Hoo.out (show _=(0,1) by decide+kernel) (by decide+kernel)];rfl
 ·go_enter Try.func58,Try.ntmps58
  go_wp2_with fail
  refine (Hword.out _).mono ?_;rintro e w1 ⟨rfl,rfl⟩;go_wp2_with fail
  refine (Hoper.out _).mono ?_;rintro e w1 ⟨rfl,rfl⟩;go_wp2_with fail
  refine bodyPost_ret (v:=.tuple #[.agg #[.string ⟨nm.toArray⟩,.int .i64 o,.int .i64 (0),.int .i64 (0)],.bool true]) ?_ rfl ⟨?_,((Below.refl _ _).alloc (Nat.le_refl _) _).alloc (by simp) _⟩
  ·simp[results,Try.results58,go_sem]
  rw[row_mk Hnm.out Hoo.out (show _=(0,0) by decide+kernel) (by decide+kernel)];rfl
 ·go_enter Try.func58,Try.ntmps58
  go_wp2_with fail
  refine (Hword.out _).mono ?_;rintro e w1 ⟨rfl,rfl⟩;go_wp2_with fail
  refine (Hoper.out _).mono ?_;rintro e w1 ⟨rfl,rfl⟩;go_wp2_with fail
  refine bodyPost_ret (v:=.tuple #[.agg #[.string ⟨nm.toArray⟩,.int .i64 o,.int .i64 (1),.int .i64 (0)],.bool true]) ?_ rfl ⟨?_,((Below.refl _ _).alloc (Nat.le_refl _) _).alloc (by simp) _⟩
  ·simp[results,Try.results58,go_sem]
  rw[row_mk Hnm.out Hoo.out (show _=(1,0) by decide+kernel) (by decide+kernel)];rfl
 ·go_enter Try.func58,Try.ntmps58
  go_wp2_with fail
  refine (Hword.out _).mono ?_;rintro e w1 ⟨rfl,rfl⟩;go_wp2_with fail
  refine (Hoper.out _).mono ?_;rintro e w1 ⟨rfl,rfl⟩;go_wp2_with fail
  refine bodyPost_ret (v:=.tuple #[.agg #[.string ⟨nm.toArray⟩,.int .i64 o,.int .i64 (1),.int .i64 (0)],.bool true]) ?_ rfl ⟨?_,((Below.refl _ _).alloc (Nat.le_refl _) _).alloc (by simp) _⟩
  ·simp[results,Try.results58,go_sem]
  rw[row_mk Hnm.out Hoo.out (show _=(1,0) by decide+kernel) (by decide+kernel)];rfl
 ·go_enter Try.func58,Try.ntmps58
  go_wp2_with fail
  refine (Hword.out _).mono ?_;rintro e w1 ⟨rfl,rfl⟩;go_wp2_with fail
  refine (Hoper.out _).mono ?_;rintro e w1 ⟨rfl,rfl⟩;go_wp2_with fail
  refine bodyPost_ret (v:=.tuple #[.agg #[.string ⟨nm.toArray⟩,.int .i64 o,.int .i64 (-1),.int .i64 (-1)],.bool true]) ?_ rfl ⟨?_,((Below.refl _ _).alloc (Nat.le_refl _) _).alloc (by simp) _⟩
  ·simp[results,Try.results58,go_sem]
  rw[row_mk Hnm.out Hoo.out (show _=(-1,-1) by decide+kernel) (by decide+kernel)];rfl
 ·go_enter Try.func58,Try.ntmps58
  go_wp2_with fail
  refine (Hword.out _).mono ?_;rintro e w1 ⟨rfl,rfl⟩;go_wp2_with fail
  refine (Hoper.out _).mono ?_;rintro e w1 ⟨rfl,rfl⟩;go_wp2_with fail
  refine bodyPost_ret (v:=.tuple #[.agg #[.string ⟨nm.toArray⟩,.int .i64 o,.int .i64 (-1),.int .i64 (0)],.bool true]) ?_ rfl ⟨?_,((Below.refl _ _).alloc (Nat.le_refl _) _).alloc (by simp) _⟩
  ·simp[results,Try.results58,go_sem]
  rw[row_mk Hnm.out Hoo.out (show _=(-1,0) by decide+kernel) (by decide+kernel)];rfl
 ·go_enter Try.func58,Try.ntmps58
  go_wp2_with fail
  refine (Hword.out _).mono ?_;rintro e w1 ⟨rfl,rfl⟩;go_wp2_with fail
  refine (Hoper.out _).mono ?_;rintro e w1 ⟨rfl,rfl⟩;go_wp2_with fail
  refine bodyPost_ret (v:=.tuple #[.agg #[.string ⟨nm.toArray⟩,.int .i64 o,.int .i64 (-1),.int .i64 (1)],.bool true]) ?_ rfl ⟨?_,((Below.refl _ _).alloc (Nat.le_refl _) _).alloc (by simp) _⟩
  ·simp[results,Try.results58,go_sem]
  rw[row_mk Hnm.out Hoo.out (show _=(-1,1) by decide+kernel) (by decide+kernel)];rfl
 ·go_enter Try.func58,Try.ntmps58
  go_wp2_with fail
  refine (Hword.out _).mono ?_;rintro e w1 ⟨rfl,rfl⟩;go_wp2_with fail
  refine (Hoper.out _).mono ?_;rintro e w1 ⟨rfl,rfl⟩;go_wp2_with fail
  refine bodyPost_ret (v:=.tuple #[.agg #[.string ⟨nm.toArray⟩,.int .i64 o,.int .i64 (2),.int .i64 (1)],.bool true]) ?_ rfl ⟨?_,((Below.refl _ _).alloc (Nat.le_refl _) _).alloc (by simp) _⟩
  ·simp[results,Try.results58,go_sem]
  rw[row_mk Hnm.out Hoo.out (show _=(2,1) by decide+kernel) (by decide+kernel)];rfl
 ·go_enter Try.func58,Try.ntmps58
  go_wp2_with fail
  refine (Hword.out _).mono ?_;rintro e w1 ⟨rfl,rfl⟩;go_wp2_with fail
  refine (Hoper.out _).mono ?_;rintro e w1 ⟨rfl,rfl⟩;go_wp2_with fail
  refine bodyPost_ret (v:=.tuple #[.agg #[.string ⟨nm.toArray⟩,.int .i64 o,.int .i64 (2),.int .i64 (1)],.bool true]) ?_ rfl ⟨?_,((Below.refl _ _).alloc (Nat.le_refl _) _).alloc (by simp) _⟩
  ·simp[results,Try.results58,go_sem]
  rw[row_mk Hnm.out Hoo.out (show _=(2,1) by decide+kernel) (by decide+kernel)];rfl
 ·go_enter Try.func58,Try.ntmps58
  go_wp2_with fail
  refine (Hword.out _).mono ?_;rintro e w1 ⟨rfl,rfl⟩;go_wp2_with fail
  refine (Hoper.out _).mono ?_;rintro e w1 ⟨rfl,rfl⟩;go_wp2_with fail
  refine bodyPost_ret (v:=.tuple #[.agg #[.string ⟨nm.toArray⟩,.int .i64 o,.int .i64 (2),.int .i64 (1)],.bool true]) ?_ rfl ⟨?_,((Below.refl _ _).alloc (Nat.le_refl _) _).alloc (by simp) _⟩
  ·simp[results,Try.results58,go_sem]
  rw[row_mk Hnm.out Hoo.out (show _=(2,1) by decide+kernel) (by decide+kernel)];rfl
 ·go_enter Try.func58,Try.ntmps58
  go_wp2_with fail
  refine (Hword.out _).mono ?_;rintro e w1 ⟨rfl,rfl⟩;go_wp2_with fail
  refine (Hoper.out _).mono ?_;rintro e w1 ⟨rfl,rfl⟩;go_wp2_with fail
  refine bodyPost_ret (v:=.tuple #[.agg #[.string ⟨nm.toArray⟩,.int .i64 o,.int .i64 (2),.int .i64 (1)],.bool true]) ?_ rfl ⟨?_,((Below.refl _ _).alloc (Nat.le_refl _) _).alloc (by simp) _⟩
  ·simp[results,Try.results58,go_sem]
  rw[row_mk Hnm.out Hoo.out (show _=(2,1) by decide+kernel) (by decide+kernel)];rfl
 ·go_enter Try.func58,Try.ntmps58
  go_wp2_with fail
  refine (Hword.out _).mono ?_;rintro e w1 ⟨rfl,rfl⟩;go_wp2_with fail
  refine (Hoper.out _).mono ?_;rintro e w1 ⟨rfl,rfl⟩;go_wp2_with fail
  refine bodyPost_ret (v:=.tuple #[.agg #[.string ⟨nm.toArray⟩,.int .i64 o,.int .i64 (2),.int .i64 (1)],.bool true]) ?_ rfl ⟨?_,((Below.refl _ _).alloc (Nat.le_refl _) _).alloc (by simp) _⟩
  ·simp[results,Try.results58,go_sem]
  rw[row_mk Hnm.out Hoo.out (show _=(2,1) by decide+kernel) (by decide+kernel)];rfl
 ·go_enter Try.func58,Try.ntmps58
  go_wp2_with fail
  refine (Hword.out _).mono ?_;rintro e w1 ⟨rfl,rfl⟩;go_wp2_with fail
  refine (Hoper.out _).mono ?_;rintro e w1 ⟨rfl,rfl⟩;go_wp2_with fail
  refine bodyPost_ret (v:=.tuple #[.agg #[.string ⟨nm.toArray⟩,.int .i64 o,.int .i64 (2),.int .i64 (1)],.bool true]) ?_ rfl ⟨?_,((Below.refl _ _).alloc (Nat.le_refl _) _).alloc (by simp) _⟩
  ·simp[results,Try.results58,go_sem]
  rw[row_mk Hnm.out Hoo.out (show _=(2,1) by decide+kernel) (by decide+kernel)];rfl
 ·go_enter Try.func58,Try.ntmps58
  go_wp2_with fail
  refine (Hword.out _).mono ?_;rintro e w1 ⟨rfl,rfl⟩;go_wp2_with fail
  refine (Hoper.out _).mono ?_;rintro e w1 ⟨rfl,rfl⟩;go_wp2_with fail
  refine bodyPost_ret (v:=.tuple #[.agg #[.string ⟨nm.toArray⟩,.int .i64 o,.int .i64 (2),.int .i64 (1)],.bool true]) ?_ rfl ⟨?_,((Below.refl _ _).alloc (Nat.le_refl _) _).alloc (by simp) _⟩
  ·simp[results,Try.results58,go_sem]
  rw[row_mk Hnm.out Hoo.out (show _=(2,1) by decide+kernel) (by decide+kernel)];rfl
 ·go_enter Try.func58,Try.ntmps58
  go_wp2_with fail
  refine (Hword.out _).mono ?_;rintro e w1 ⟨rfl,rfl⟩;go_wp2_with fail
  refine (Hoper.out _).mono ?_;rintro e w1 ⟨rfl,rfl⟩;go_wp2_with fail
  refine bodyPost_ret (v:=.tuple #[.agg #[.string ⟨nm.toArray⟩,.int .i64 o,.int .i64 (2),.int .i64 (1)],.bool true]) ?_ rfl ⟨?_,((Below.refl _ _).alloc (Nat.le_refl _) _).alloc (by simp) _⟩
  ·simp[results,Try.results58,go_sem]
  rw[row_mk Hnm.out Hoo.out (show _=(2,1) by decide+kernel) (by decide+kernel)];rfl
 ·go_enter Try.func58,Try.ntmps58
  go_wp2_with fail
  refine (Hword.out _).mono ?_;rintro e w1 ⟨rfl,rfl⟩;go_wp2_with fail
  refine (Hoper.out _).mono ?_;rintro e w1 ⟨rfl,rfl⟩;go_wp2_with fail
  refine bodyPost_ret (v:=.tuple #[.agg #[.string ⟨nm.toArray⟩,.int .i64 o,.int .i64 (2),.int .i64 (1)],.bool true]) ?_ rfl ⟨?_,((Below.refl _ _).alloc (Nat.le_refl _) _).alloc (by simp) _⟩
  ·simp[results,Try.results58,go_sem]
  rw[row_mk Hnm.out Hoo.out (show _=(2,1) by decide+kernel) (by decide+kernel)];rfl
 ·go_enter Try.func58,Try.ntmps58
  go_wp2_with fail
  refine (Hword.out _).mono ?_;rintro e w1 ⟨rfl,rfl⟩;go_wp2_with fail
  refine (Hoper.out _).mono ?_;rintro e w1 ⟨rfl,rfl⟩;go_wp2_with fail
  refine bodyPost_ret (v:=.tuple #[.agg #[.string ⟨nm.toArray⟩,.int .i64 o,.int .i64 (2),.int .i64 (1)],.bool true]) ?_ rfl ⟨?_,((Below.refl _ _).alloc (Nat.le_refl _) _).alloc (by simp) _⟩
  ·simp[results,Try.results58,go_sem]
  rw[row_mk Hnm.out Hoo.out (show _=(2,1) by decide+kernel) (by decide+kernel)];rfl
 ·go_enter Try.func58,Try.ntmps58
  go_wp2_with fail
  refine (Hword.out _).mono ?_;rintro e w1 ⟨rfl,rfl⟩;go_wp2_with fail
  refine (Hoper.out _).mono ?_;rintro e w1 ⟨rfl,rfl⟩;go_wp2_with fail
  refine bodyPost_ret (v:=.tuple #[.agg #[.string ⟨nm.toArray⟩,.int .i64 o,.int .i64 (2),.int .i64 (1)],.bool true]) ?_ rfl ⟨?_,((Below.refl _ _).alloc (Nat.le_refl _) _).alloc (by simp) _⟩
  ·simp[results,Try.results58,go_sem]
  rw[row_mk Hnm.out Hoo.out (show _=(2,1) by decide+kernel) (by decide+kernel)];rfl
 ·go_enter Try.func58,Try.ntmps58
  go_wp2_with fail
  refine (Hword.out _).mono ?_;rintro e w1 ⟨rfl,rfl⟩;go_wp2_with fail
  refine (Hoper.out _).mono ?_;rintro e w1 ⟨rfl,rfl⟩;go_wp2_with fail
  refine bodyPost_ret (v:=.tuple #[.agg #[.string ⟨nm.toArray⟩,.int .i64 o,.int .i64 (2),.int .i64 (1)],.bool true]) ?_ rfl ⟨?_,((Below.refl _ _).alloc (Nat.le_refl _) _).alloc (by simp) _⟩
  ·simp[results,Try.results58,go_sem]
  rw[row_mk Hnm.out Hoo.out (show _=(2,1) by decide+kernel) (by decide+kernel)];rfl
 ·go_enter Try.func58,Try.ntmps58
  go_wp2_with fail
  refine (Hword.out _).mono ?_;rintro e w1 ⟨rfl,rfl⟩;go_wp2_with fail
  refine (Hoper.out _).mono ?_;rintro e w1 ⟨rfl,rfl⟩;go_wp2_with fail
  refine bodyPost_ret (v:=.tuple #[.agg #[.string ⟨nm.toArray⟩,.int .i64 o,.int .i64 (2),.int .i64 (1)],.bool true]) ?_ rfl ⟨?_,((Below.refl _ _).alloc (Nat.le_refl _) _).alloc (by simp) _⟩
  ·simp[results,Try.results58,go_sem]
  rw[row_mk Hnm.out Hoo.out (show _=(2,1) by decide+kernel) (by decide+kernel)];rfl
 ·go_enter Try.func58,Try.ntmps58
  go_wp2_with fail
  refine (Hword.out _).mono ?_;rintro e w1 ⟨rfl,rfl⟩;go_wp2_with fail
  refine (Hoper.out _).mono ?_;rintro e w1 ⟨rfl,rfl⟩;go_wp2_with fail
  refine bodyPost_ret (v:=.tuple #[.agg #[.string ⟨nm.toArray⟩,.int .i64 o,.int .i64 (2),.int .i64 (1)],.bool true]) ?_ rfl ⟨?_,((Below.refl _ _).alloc (Nat.le_refl _) _).alloc (by simp) _⟩
  ·simp[results,Try.results58,go_sem]
  rw[row_mk Hnm.out Hoo.out (show _=(2,1) by decide+kernel) (by decide+kernel)];rfl
 ·go_enter Try.func58,Try.ntmps58
  go_wp2_with fail
  refine (Hword.out _).mono ?_;rintro e w1 ⟨rfl,rfl⟩;go_wp2_with fail
  refine (Hoper.out _).mono ?_;rintro e w1 ⟨rfl,rfl⟩;go_wp2_with fail
  refine bodyPost_ret (v:=.tuple #[.agg #[.string ⟨nm.toArray⟩,.int .i64 o,.int .i64 (1),.int .i64 (1)],.bool true]) ?_ rfl ⟨?_,((Below.refl _ _).alloc (Nat.le_refl _) _).alloc (by simp) _⟩
  ·simp[results,Try.results58,go_sem]
  rw[row_mk Hnm.out Hoo.out (show _=(1,1) by decide+kernel) (by decide+kernel)];rfl
 ·go_enter Try.func58,Try.ntmps58
  go_wp2_with fail
  refine (Hword.out _).mono ?_;rintro e w1 ⟨rfl,rfl⟩;go_wp2_with fail
  refine (Hoper.out _).mono ?_;rintro e w1 ⟨rfl,rfl⟩;go_wp2_with fail
  refine bodyPost_ret (v:=.tuple #[.agg #[.string ⟨nm.toArray⟩,.int .i64 o,.int .i64 (1),.int .i64 (1)],.bool true]) ?_ rfl ⟨?_,((Below.refl _ _).alloc (Nat.le_refl _) _).alloc (by simp) _⟩
  ·simp[results,Try.results58,go_sem]
  rw[row_mk Hnm.out Hoo.out (show _=(1,1) by decide+kernel) (by decide+kernel)];rfl
 ·go_enter Try.func58,Try.ntmps58
  go_wp2_with fail
  refine (Hword.out _).mono ?_;rintro e w1 ⟨rfl,rfl⟩;go_wp2_with fail
  refine (Hoper.out _).mono ?_;rintro e w1 ⟨rfl,rfl⟩;go_wp2_with fail
  refine bodyPost_ret (v:=.tuple #[.agg #[.string ⟨nm.toArray⟩,.int .i64 o,.int .i64 (2),.int .i64 (1)],.bool true]) ?_ rfl ⟨?_,((Below.refl _ _).alloc (Nat.le_refl _) _).alloc (by simp) _⟩
  ·simp[results,Try.results58,go_sem]
  rw[row_mk Hnm.out Hoo.out (show _=(2,1) by decide+kernel) (by decide+kernel)];rfl
 ·go_enter Try.func58,Try.ntmps58
  go_wp2_with fail
  refine (Hword.out _).mono ?_;rintro e w1 ⟨rfl,rfl⟩;go_wp2_with fail
  refine (Hoper.out _).mono ?_;rintro e w1 ⟨rfl,rfl⟩;go_wp2_with fail
  refine bodyPost_ret (v:=.tuple #[.agg #[.string ⟨nm.toArray⟩,.int .i64 o,.int .i64 (2),.int .i64 (1)],.bool true]) ?_ rfl ⟨?_,((Below.refl _ _).alloc (Nat.le_refl _) _).alloc (by simp) _⟩
  ·simp[results,Try.results58,go_sem]
  rw[row_mk Hnm.out Hoo.out (show _=(2,1) by decide+kernel) (by decide+kernel)];rfl
 ·go_enter Try.func58,Try.ntmps58
  go_wp2_with fail
  refine (Hword.out _).mono ?_;rintro e w1 ⟨rfl,rfl⟩;go_wp2_with fail
  refine (Hoper.out _).mono ?_;rintro e w1 ⟨rfl,rfl⟩;go_wp2_with fail
  refine bodyPost_ret (v:=.tuple #[.agg #[.string ⟨nm.toArray⟩,.int .i64 o,.int .i64 (2),.int .i64 (1)],.bool true]) ?_ rfl ⟨?_,((Below.refl _ _).alloc (Nat.le_refl _) _).alloc (by simp) _⟩
  ·simp[results,Try.results58,go_sem]
  rw[row_mk Hnm.out Hoo.out (show _=(2,1) by decide+kernel) (by decide+kernel)];rfl
 ·go_enter Try.func58,Try.ntmps58
  go_wp2_with fail
  refine (Hword.out _).mono ?_;rintro e w1 ⟨rfl,rfl⟩;go_wp2_with fail
  refine (Hoper.out _).mono ?_;rintro e w1 ⟨rfl,rfl⟩;go_wp2_with fail
  refine bodyPost_ret (v:=.tuple #[.agg #[.string ⟨nm.toArray⟩,.int .i64 o,.int .i64 (2),.int .i64 (1)],.bool true]) ?_ rfl ⟨?_,((Below.refl _ _).alloc (Nat.le_refl _) _).alloc (by simp) _⟩
  ·simp[results,Try.results58,go_sem]
  rw[row_mk Hnm.out Hoo.out (show _=(2,1) by decide+kernel) (by decide+kernel)];rfl
 ·go_enter Try.func58,Try.ntmps58
  go_wp2_with fail
  refine (Hword.out _).mono ?_;rintro e w1 ⟨rfl,rfl⟩;go_wp2_with fail
  refine (Hoper.out _).mono ?_;rintro e w1 ⟨rfl,rfl⟩;go_wp2_with fail
  refine bodyPost_ret (v:=.tuple #[.agg #[.string ⟨nm.toArray⟩,.int .i64 o,.int .i64 (2),.int .i64 (1)],.bool true]) ?_ rfl ⟨?_,((Below.refl _ _).alloc (Nat.le_refl _) _).alloc (by simp) _⟩
  ·simp[results,Try.results58,go_sem]
  rw[row_mk Hnm.out Hoo.out (show _=(2,1) by decide+kernel) (by decide+kernel)];rfl
 ·go_enter Try.func58,Try.ntmps58
  go_wp2_with fail
  refine (Hword.out _).mono ?_;rintro e w1 ⟨rfl,rfl⟩;go_wp2_with fail
  refine (Hoper.out _).mono ?_;rintro e w1 ⟨rfl,rfl⟩;go_wp2_with fail
  refine bodyPost_ret (v:=.tuple #[.agg #[.string ⟨nm.toArray⟩,.int .i64 o,.int .i64 (2),.int .i64 (1)],.bool true]) ?_ rfl ⟨?_,((Below.refl _ _).alloc (Nat.le_refl _) _).alloc (by simp) _⟩
  ·simp[results,Try.results58,go_sem]
  rw[row_mk Hnm.out Hoo.out (show _=(2,1) by decide+kernel) (by decide+kernel)];rfl
 ·go_enter Try.func58,Try.ntmps58
  go_wp2_with fail
  refine (Hword.out _).mono ?_;rintro e w1 ⟨rfl,rfl⟩;go_wp2_with fail
  refine (Hoper.out _).mono ?_;rintro e w1 ⟨rfl,rfl⟩;go_wp2_with fail
  refine bodyPost_ret (v:=.tuple #[.agg #[.string ⟨nm.toArray⟩,.int .i64 o,.int .i64 (1),.int .i64 (1)],.bool true]) ?_ rfl ⟨?_,((Below.refl _ _).alloc (Nat.le_refl _) _).alloc (by simp) _⟩
  ·simp[results,Try.results58,go_sem]
  rw[row_mk Hnm.out Hoo.out (show _=(1,1) by decide+kernel) (by decide+kernel)];rfl
 ·go_enter Try.func58,Try.ntmps58
  go_wp2_with fail
  refine (Hword.out _).mono ?_;rintro e w1 ⟨rfl,rfl⟩;go_wp2_with fail
  refine (Hoper.out _).mono ?_;rintro e w1 ⟨rfl,rfl⟩;go_wp2_with fail
  refine bodyPost_ret (v:=.tuple #[.agg #[.string ⟨nm.toArray⟩,.int .i64 o,.int .i64 (1),.int .i64 (1)],.bool true]) ?_ rfl ⟨?_,((Below.refl _ _).alloc (Nat.le_refl _) _).alloc (by simp) _⟩
  ·simp[results,Try.results58,go_sem]
  rw[row_mk Hnm.out Hoo.out (show _=(1,1) by decide+kernel) (by decide+kernel)];rfl
 ·go_enter Try.func58,Try.ntmps58
  go_wp2_with fail
  refine (Hword.out _).mono ?_;rintro e w1 ⟨rfl,rfl⟩;go_wp2_with fail
  refine (Hoper.out _).mono ?_;rintro e w1 ⟨rfl,rfl⟩;go_wp2_with fail
  refine bodyPost_ret (v:=.tuple #[.agg #[.string ⟨nm.toArray⟩,.int .i64 o,.int .i64 (1),.int .i64 (1)],.bool true]) ?_ rfl ⟨?_,((Below.refl _ _).alloc (Nat.le_refl _) _).alloc (by simp) _⟩
  ·simp[results,Try.results58,go_sem]
  rw[row_mk Hnm.out Hoo.out (show _=(1,1) by decide+kernel) (by decide+kernel)];rfl
 go_enter Try.func58,Try.ntmps58
 go_wp2_with fail
 refine (Hword.out _).mono ?_;rintro e w1 ⟨rfl,rfl⟩;go_wp2_with fail
 refine (Hoper.out _).mono ?_;rintro e w1 ⟨rfl,rfl⟩;go_wp2_with fail
 refine bodyPost_ret (v:=.tuple #[.agg #[.string ⟨nm.toArray⟩,.int .i64 o,.int .i64 (1),.int .i64 (1)],.bool true]) ?_ rfl ⟨?_,((Below.refl _ _).alloc (Nat.le_refl _) _).alloc (by simp) _⟩
 ·simp[results,Try.results58,go_sem]
 rw[row_mk Hnm.out Hoo.out (show _=(1,1) by decide+kernel) (by decide+kernel)];rfl
theorem refOf_any (op:Int) (w:World):Calls Try.prog 58 #[.int .i64 op] w (OfPost w shapeTab op):=by
 by_cases h:op<0∨46≤op
 ·exact refOf_out op w h
 obtain ⟨n,rfl⟩:=Int.eq_ofNat_of_zero_le (show 0≤op by omega)
 exact refOf_in n w (by omega)
end
end Go.Proofs.Ytcmpmhlcfalbhaa
