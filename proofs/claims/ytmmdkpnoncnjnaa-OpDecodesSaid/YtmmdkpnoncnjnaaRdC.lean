/- The contract of mint's Read. -/
import Derived.Test.YtmmdkpnoncnjnaaRdB
import Derived.Defers
import Derived.Recover
import Derived.Lib.Builder
namespace Go.Proofs.Ytmmdkpnoncnjnaa
open Go.RowKit

theorem assert_nil (w : World) : (Instr.typeAssert .nilIface 20 103 true).run Try.prog w = .ok (.tuple #[.agg #[.pointer none], .bool false]) w := by kernel_rfl
theorem assert_ended (v : Value) (w : World) : (Instr.typeAssert (.iface 103 v) 20 103 true).run Try.prog w = .ok (.tuple #[v, .bool true]) w := by kernel_rfl
theorem reader_info : ∃ j, Try.prog.info? 101 = some j := Option.isSome_iff_exists.1 (by kernel_rfl)
theorem neq_same (a : Addr) (w : World) : (binOp .neq 81 (.pointer (some a)) (.pointer (some a))).run Try.prog w = .ok (.bool false) w := by
  obtain ⟨j, hj⟩ := reader_info
  exact Lib.run_neq_ptr_same w a Try.underlying81 hj
theorem cell_two {w : World} {g ge k : Nat} {u v z : Value} {o : Obj} {n : Nat} (he : w.cell? ⟨ge, 0, none⟩ = some u) (h2 : ge ≠ g) :
    ((((w.setCell ⟨g, k, none⟩ v).alloc o).drewN n).setCell ⟨ge, 0, none⟩ z).cell? ⟨ge, 0, none⟩ = some z ∧ (((w.setCell ⟨g, k, none⟩ v).setCell ⟨ge, 0, none⟩ z).alloc o).cell? ⟨ge, 0, none⟩ = some z ∧ (((w.setCell ⟨g, k, none⟩ v).alloc o).drewN n).cell? ⟨ge, 0, none⟩ = some u := by
  have hl : ge < w.heap.size := block_lt_of_cell he
  have h1 : (((w.setCell ⟨g, k, none⟩ v).alloc o).drewN n).cell? ⟨ge, 0, none⟩ = some u := by
    rw [(ocell ((((Only.refl (fun b => b = g) w).setCell (p := ⟨g, k, none⟩) (.inl rfl) v).alloc o).drewN n)).1 ge 0 hl h2]
    exact he
  have h3 : (w.setCell ⟨g, k, none⟩ v).cell? ⟨ge, 0, none⟩ = some u := by
    rw [(ocell ((Only.refl (fun b => b = g) w).setCell (p := ⟨g, k, none⟩) (.inl rfl) v)).1 ge 0 hl h2]
    exact he
  refine ⟨World.cell?_setCell_same _ _ _ h1, ?_, h1⟩
  rw [(ocell ((Only.refl (fun _ => False) _).alloc o)).1 ge 0 (by rw [World.size_setCell, World.size_setCell]; exact hl) (fun h => h)]
  exact World.cell?_setCell_same _ _ _ h3
/-- What Read answers. -/
def readE (f : Int) (at_ n : Nat) : Int := if f ≠ 0 then f else if at_ < n then 13 else 0
/-- What the closure leaves behind. -/
structure Closed (w : World) (gr ge g : Nat) (A : Option Addr) (c : Nat) (bs : List UInt8) (at_ : Nat) (f : Int) (w' : World) : Prop where
  cell : w'.cell? ⟨ge, 0, none⟩ = some (.int .i64 (readE f at_ bs.length))
  rd : Rd w' g A c bs at_ true f
  only : Only (fun b => b = g ∨ b = ge) w w'
theorem closed_of {w w1 w2 : World} {gr ge g c at_ : Nat} {A : Option Addr} {bs : List UInt8} {o : Bool} {f : Int} (h : Rd w g A c bs at_ o f) (h2 : ge ≠ g) (hA : ∀ b o, A = some ⟨b, o, none⟩ → b ≠ ge)
    (hw1 : w1 = w.setCell ⟨g, 2, none⟩ (.bool true)) (ho : Only (fun b => b = ge) w1 w2) (hcell : w2.cell? ⟨ge, 0, none⟩ = some (.int .i64 (readE f at_ bs.length))) : Closed w gr ge g A c bs at_ f w2 := by
  subst hw1
  refine ⟨hcell, (h.setO true).only ho (fun e => h2 e.symm) fun b o e => hA b o e, ?_⟩
  have h1 : Only (fun b => b = g ∨ b = ge) w (w.setCell ⟨g, 2, none⟩ (.bool true)) := (Only.refl _ w).setCell (p := ⟨g, 2, none⟩) (.inl (.inl rfl)) _
  exact h1.trans (ho.mono fun _ _ e => .inr e)
set_option maxRecDepth 100000 in
set_option maxHeartbeats 1000000 in
theorem close_ret (gr ge g c at_ : Nat) (A : Option Addr) (bs : List UInt8) (o : Bool) (f : Int) (w : World) (h : Rd w g A c bs at_ o f) (hr : w.cell? ⟨gr, 0, none⟩ = some (.pointer (some ⟨g, 0, none⟩))) (he : w.cell? ⟨ge, 0, none⟩ = some (.int .i64 0)) (hfe : w.frozen? ⟨ge, 0, none⟩ = false)
    (h2 : ge ≠ g) (hA : ∀ b o, A = some ⟨b, o, none⟩ → b ≠ ge) :
    CallsD Try.prog 66 #[.pointer (some ⟨gr, 0, none⟩), .pointer (some ⟨ge, 0, none⟩)] .returning w fun e u' w' => e = .returned (.tuple #[]) ∧ u' = .returning ∧ Closed w gr ge g A c bs at_ f w' := by
  have k2 := h.c2
  have f2 := h.blk.frozen 2
  have f3 := h.c3
  have k1 := h.c1
  have k0 := h.c0
  have hgl := h.blk.lt
  have hle := h.le
  have hrl : gr < w.heap.size := block_lt_of_cell hr
  have hel : ge < w.heap.size := block_lt_of_cell he
  have H := Lib.hid h
  have HA := Lib.hid hA
  clear h hA
  have hta := assert_nil
  have hclose := fun w2 => @closed_of w _ w2 gr ge g c at_ A bs o f H.out h2 HA.out rfl
  have HC := Lib.hid hclose
  clear hclose
  refine callsD_of_wpS Try.func66 rfl fun c₀ cs hu => ?_
  have hc0 : ({ c₀ with mode := FrameMode.returning } : Frame) = c₀ := by cases c₀; simp_all
  have Hc0 := Lib.hid hc0
  clear hc0
  simp only [Try.ntmps66]
  apply wpS_seq
  refine wpS_of_wp ?_
  simp [Array.replicate]
  go_wp2_with fail
  dsimp only [Exit.thenS]
  apply wpS_seq
  apply wpS_region
  simp [wpOpsS, go_sem, recoverD, hu, Exit.thenS]
  refine wpS_of_wp ?_
  by_cases hf : f = 0
  · subst hf
    by_cases hlt : at_ < bs.length
    · have g1 : (at_ : Int) < bs.length := by omega
      have hE : readE 0 at_ bs.length = 13 := by unfold readE; rw [if_neg (by omega), if_pos hlt]
      have HE := Lib.hid hE
      clear hE
      go_wp2_with fail
      go_quiet (fail)
      go_wp2_with fail
      refine ⟨rfl, FrameMode.returning, by rw [Hc0.out], _, results_none rfl _ _ _, rfl, rfl, HC.out _ ?_ ?_⟩
      · exact (((Only.refl (fun b => b = ge) _).alloc _).drewN _).setCell (p := ⟨ge, 0, none⟩) (.inl rfl) _
      · rw [HE.out]
        exact (cell_two he h2).1
    · have g1 : ¬ (at_ : Int) < bs.length := by omega
      have hE : readE 0 at_ bs.length = 0 := by unfold readE; rw [if_neg (by omega), if_neg hlt]
      have HE := Lib.hid hE
      clear hE
      go_wp2_with fail
      go_quiet (fail)
      go_wp2_with fail
      refine ⟨rfl, FrameMode.returning, by rw [Hc0.out], _, results_none rfl _ _ _, rfl, rfl, HC.out _ ?_ ?_⟩
      · exact ((Only.refl (fun b => b = ge) _).alloc _).drewN _
      · rw [HE.out]
        exact (cell_two (z := .int .i64 0) he h2).2.2
  · have hE : readE f at_ bs.length = f := by unfold readE; rw [if_pos hf]
    have hfb : (f != 0) = true := by rw [bne_iff_ne]; exact hf
    have HE := Lib.hid hE
    clear hE hf
    go_wp2_with fail
    refine ⟨rfl, FrameMode.returning, by rw [Hc0.out], _, results_none rfl _ _ _, rfl, rfl, HC.out _ ?_ ?_⟩
    · exact ((Only.refl (fun b => b = ge) _).setCell (p := ⟨ge, 0, none⟩) (.inl rfl) _).alloc _
    · rw [HE.out]
      exact (cell_two (n := 0) he h2).2.1
set_option maxRecDepth 100000 in
set_option maxHeartbeats 1000000 in
theorem close_pan (gr ge g c at_ : Nat) (A : Option Addr) (bs : List UInt8) (o : Bool) (f : Int) (w : World) (h : Rd w g A c bs at_ o f) (hr : w.cell? ⟨gr, 0, none⟩ = some (.pointer (some ⟨g, 0, none⟩))) (he : w.cell? ⟨ge, 0, none⟩ = some (.int .i64 0)) (hfe : w.frozen? ⟨ge, 0, none⟩ = false)
    (h2 : ge ≠ g) (hA : ∀ b o, A = some ⟨b, o, none⟩ → b ≠ ge) :
    CallsD Try.prog 66 #[.pointer (some ⟨gr, 0, none⟩), .pointer (some ⟨ge, 0, none⟩)] (.panicking [endedE g]) w fun e u' w' => e = .returned (.tuple #[]) ∧ u' = .panicking [{ endedE g with recovered := true }] ∧ Closed w gr ge g A c bs at_ f w' := by
  have k2 := h.c2
  have f2 := h.blk.frozen 2
  have f3 := h.c3
  have k1 := h.c1
  have k0 := h.c0
  have hgl := h.blk.lt
  have hle := h.le
  have hrl : gr < w.heap.size := block_lt_of_cell hr
  have hel : ge < w.heap.size := block_lt_of_cell he
  have H := Lib.hid h
  have HA := Lib.hid hA
  clear h hA
  have hta := assert_ended
  have hne := neq_same
  have hclose := fun w2 => @closed_of w _ w2 gr ge g c at_ A bs o f H.out h2 HA.out rfl
  have HC := Lib.hid hclose
  clear hclose
  refine callsD_of_wpS Try.func66 rfl fun c₀ cs hu => ?_
  simp only [Try.ntmps66]
  apply wpS_seq
  refine wpS_of_wp ?_
  simp [Array.replicate]
  go_wp2_with fail
  dsimp only [Exit.thenS]
  apply wpS_seq
  apply wpS_region
  simp [wpOpsS, go_sem, recoverD, hu, Exit.thenS, endedE]
  refine wpS_of_wp ?_
  by_cases hf : f = 0
  · subst hf
    by_cases hlt : at_ < bs.length
    · have g1 : (at_ : Int) < bs.length := by omega
      have hE : readE 0 at_ bs.length = 13 := by unfold readE; rw [if_neg (by omega), if_pos hlt]
      have HE := Lib.hid hE
      clear hE
      go_wp2_with fail
      go_quiet (fail)
      go_wp2_with fail
      refine ⟨rfl, _, rfl, _, results_none rfl _ _ _, rfl, rfl, HC.out _ ?_ ?_⟩
      · exact (((Only.refl (fun b => b = ge) _).alloc _).drewN _).setCell (p := ⟨ge, 0, none⟩) (.inl rfl) _
      · rw [HE.out]
        exact (cell_two he h2).1
    · have g1 : ¬ (at_ : Int) < bs.length := by omega
      have hE : readE 0 at_ bs.length = 0 := by unfold readE; rw [if_neg (by omega), if_neg hlt]
      have HE := Lib.hid hE
      clear hE
      go_wp2_with fail
      go_quiet (fail)
      go_wp2_with fail
      refine ⟨rfl, _, rfl, _, results_none rfl _ _ _, rfl, rfl, HC.out _ ?_ ?_⟩
      · exact ((Only.refl (fun b => b = ge) _).alloc _).drewN _
      · rw [HE.out]
        exact (cell_two (z := .int .i64 0) he h2).2.2
  · have hE : readE f at_ bs.length = f := by unfold readE; rw [if_pos hf]
    have hfb : (f != 0) = true := by rw [bne_iff_ne]; exact hf
    have HE := Lib.hid hE
    clear hE hf
    go_wp2_with fail
    refine ⟨rfl, _, rfl, _, results_none rfl _ _ _, rfl, rfl, HC.out _ ?_ ?_⟩
    · exact ((Only.refl (fun b => b = ge) _).setCell (p := ⟨ge, 0, none⟩) (.inl rfl) _).alloc _
    · rw [HE.out]
      exact (cell_two (n := 0) he h2).2.1
end Go.Proofs.Ytmmdkpnoncnjnaa
