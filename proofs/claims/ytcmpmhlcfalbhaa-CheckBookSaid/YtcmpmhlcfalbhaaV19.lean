import Derived.Test.YtcmpmhlcfalbhaaV18
namespace Go.Proofs.Ytcmpmhlcfalbhaa
open Go.RowKit
attribute [local go_sem] rowVal
set_option maxRecDepth 100000 in
theorem refSys_out (op:Int) (w:World) (h:op<0∨5≤op):Calls Try.prog 57 #[.int .i64 op] w (OfPost w callTab op):=by
 have e:rowAt callTab op=(([],0,0,0),false):=by
  unfold rowAt;split
  ·rw[List.getElem?_eq_none (by
    have:callTab.length=5:=by decide+kernel
    omega)]
  rfl
 have He:=Lib.hid e;clear e;rcases h with h|h
 ·go_enter Try.func57,Try.ntmps57
  go_wp2_with fail
  refine bodyPost_ret (v:=.tuple #[rowVal ([],0,0,0),.bool false]) ?_ rfl ⟨by rw[He.out],(Below.refl _ _).alloc (Nat.le_refl _) _⟩
  simp[results,Try.results57,go_sem]
 have h0:decide (op<0)=false:=decide_eq_false (by omega)
 go_enter Try.func57,Try.ntmps57
 go_wp2_with fail
 refine bodyPost_ret (v:=.tuple #[rowVal ([],0,0,0),.bool false]) ?_ rfl ⟨by rw[He.out],(Below.refl _ _).alloc (Nat.le_refl _) _⟩
 simp[results,Try.results57,go_sem]
set_option maxRecDepth 100000 in
set_option maxHeartbeats 1000000 in
theorem refSys_in (n:Nat) (w:World) (h:n<5):Calls Try.prog 57 #[.int .i64 (n:Int)] w (OfPost w callTab (n:Int)):=by
 have hw:=calls_word n h;obtain ⟨nm,hnm⟩:∃nm,(rowAt callTab (n:Int)).1.1=nm:=⟨_,rfl⟩;rw[hnm] at hw;have hword:=fun w=>word_any callsL n w (by decide) (by omega)
 rw[hw] at hword;have Hword:=Lib.hid hword;have Hnm:=Lib.hid hnm;clear hw hword hnm;have hk:n=0∨n=1∨n=2∨n=3∨n=4:=by omega
 clear h;rcases hk with rfl|rfl|rfl|rfl|rfl
 ·go_enter Try.func57,Try.ntmps57
  go_wp2_with fail
  refine (Hword.out _).mono ?_;rintro e w1 ⟨rfl,rfl⟩;go_wp2_with fail
  refine bodyPost_ret (v:=.tuple #[.agg #[.string ⟨nm.toArray⟩,.int .i64 0,.int .i64 3,.int .i64 1],.bool true]) ?_ rfl ⟨?_,((Below.refl _ _).alloc (Nat.le_refl _) _).alloc (by simp) _⟩
  ·simp[results,Try.results57,go_sem]
  rw[row_mk Hnm.out (show _=(0:Int) by decide+kernel) (show _=(3,1) by decide+kernel) (by decide+kernel)];rfl
 ·go_enter Try.func57,Try.ntmps57
  go_wp2_with fail
  refine (Hword.out _).mono ?_;rintro e w1 ⟨rfl,rfl⟩;go_wp2_with fail
  refine bodyPost_ret (v:=.tuple #[.agg #[.string ⟨nm.toArray⟩,.int .i64 0,.int .i64 3,.int .i64 1],.bool true]) ?_ rfl ⟨?_,((Below.refl _ _).alloc (Nat.le_refl _) _).alloc (by simp) _⟩
  ·simp[results,Try.results57,go_sem]
  rw[row_mk Hnm.out (show _=(0:Int) by decide+kernel) (show _=(3,1) by decide+kernel) (by decide+kernel)];rfl
 ·go_enter Try.func57,Try.ntmps57
  go_wp2_with fail
  refine (Hword.out _).mono ?_;rintro e w1 ⟨rfl,rfl⟩;go_wp2_with fail
  refine bodyPost_ret (v:=.tuple #[.agg #[.string ⟨nm.toArray⟩,.int .i64 0,.int .i64 3,.int .i64 1],.bool true]) ?_ rfl ⟨?_,((Below.refl _ _).alloc (Nat.le_refl _) _).alloc (by simp) _⟩
  ·simp[results,Try.results57,go_sem]
  rw[row_mk Hnm.out (show _=(0:Int) by decide+kernel) (show _=(3,1) by decide+kernel) (by decide+kernel)];rfl
 ·go_enter Try.func57,Try.ntmps57
  go_wp2_with fail
  refine (Hword.out _).mono ?_;rintro e w1 ⟨rfl,rfl⟩;go_wp2_with fail
  refine bodyPost_ret (v:=.tuple #[.agg #[.string ⟨nm.toArray⟩,.int .i64 0,.int .i64 4,.int .i64 1],.bool true]) ?_ rfl ⟨?_,((Below.refl _ _).alloc (Nat.le_refl _) _).alloc (by simp) _⟩
  ·simp[results,Try.results57,go_sem]
  rw[row_mk Hnm.out (show _=(0:Int) by decide+kernel) (show _=(4,1) by decide+kernel) (by decide+kernel)];rfl
 go_enter Try.func57,Try.ntmps57
 go_wp2_with fail
 refine (Hword.out _).mono ?_;rintro e w1 ⟨rfl,rfl⟩;go_wp2_with fail
 refine bodyPost_ret (v:=.tuple #[.agg #[.string ⟨nm.toArray⟩,.int .i64 0,.int .i64 1,.int .i64 1],.bool true]) ?_ rfl ⟨?_,((Below.refl _ _).alloc (Nat.le_refl _) _).alloc (by simp) _⟩
 ·simp[results,Try.results57,go_sem]
 rw[row_mk Hnm.out (show _=(0:Int) by decide+kernel) (show _=(1,1) by decide+kernel) (by decide+kernel)];rfl
theorem refSys_any (op:Int) (w:World):Calls Try.prog 57 #[.int .i64 op] w (OfPost w callTab op):=by
 by_cases h:op<0∨5≤op
 ·exact refSys_out op w h
 obtain ⟨n,rfl⟩:=Int.eq_ofNat_of_zero_le (show 0≤op by omega)
 exact refSys_in n w (by omega)
end Go.Proofs.Ytcmpmhlcfalbhaa
