/- The walk of the function that prog's Decode defers. -/
import Derived.Test.YtadnjfoinmeloaaPrgDw
import Derived.Test.YtadnjfoinmeloaaThrK
import Derived.Test.YtadnjfoinmeloaaRegK
namespace Go.Proofs.Ytadnjfoinmeloaa
open Go.RowKit

theorem ref_nil (w : World) : (Instr.typeAssert .nilIface 20 69 true).run Try.prog w = .ok (.tuple #[.agg #[.int .i64 0], .bool false]) w := by kernel_rfl
theorem ref_yes (v : Value) (w : World) : (Instr.typeAssert (.iface 69 v) 20 69 true).run Try.prog w = .ok (.tuple #[v, .bool true]) w := by kernel_rfl
theorem ref_other (f : Int) : Other 69 (.agg #[.int .i64 f]) := fun w => by kernel_rfl
set_option maxRecDepth 100000 in
set_option maxHeartbeats 1000000 in
theorem dd1_ret (pp pe : Nat) (w : World) : CallsD Try.prog 38 #[.pointer (some ⟨pp, 0, none⟩), .pointer (some ⟨pe, 0, none⟩)] .returning w fun e u' w' => e = .returned (.tuple #[]) ∧ u' = .returning ∧ Below w.heap.size w w' := by
  have a1 := ref_nil
  refine callsD_of_wpS Try.func38 rfl fun c₀ cs hu => ?_
  have hc0 : ({ c₀ with mode := FrameMode.returning } : Frame) = c₀ := by cases c₀; simp_all
  have Hc0 := Lib.hid hc0
  clear hc0
  simp only [Try.ntmps38]
  simp [Array.replicate]
  apply wpS_seq
  apply wpS_region
  simp [wpOpsS, go_sem, recoverD, hu, Exit.thenS]
  refine wpS_of_wp ?_
  go_wp2_with fail
  refine ⟨rfl, FrameMode.returning, by rw [Hc0.out], _, results_none rfl _ _ _, rfl, rfl, ?_⟩
  first
    | exact (Below.refl _ _).alloc (Nat.le_refl _) _
    | exact ((Below.refl _ _).alloc (Nat.le_refl _) _).setCell (Nat.le_refl _) _
set_option maxRecDepth 100000 in
set_option maxHeartbeats 1000000 in
theorem dd1_pan (pp pe : Nat) (f : Int) (x y z : Value) (old : List PanicEntry) (w : World) (hne : pp ≠ pe) (hB : Blk w pp 25 #[x, y, z]) (hE : Blk w pe 28 #[.int .i64 0]) :
    CallsD Try.prog 38 #[.pointer (some ⟨pp, 0, none⟩), .pointer (some ⟨pe, 0, none⟩)] (.panicking (refusedE f :: old)) w fun e u' w' => e = .returned (.tuple #[]) ∧ u' = .panicking ({ refusedE f with recovered := true } :: old) ∧
      Blk w' pp 25 #[.int .i64 0, .slice none 0 0, .slice none 0 0] ∧ Blk w' pe 28 #[.int .i64 f] ∧ Only (fun b => b = pp ∨ b = pe) w w' := by
  have a1 := ref_yes
  have p0 : w.cell? ⟨pp, 0, none⟩ = some x := hB.cell 0
  have p1 : w.cell? ⟨pp, 1, none⟩ = some y := hB.cell 1
  have p2 : w.cell? ⟨pp, 2, none⟩ = some z := hB.cell 2
  have e0 : w.cell? ⟨pe, 0, none⟩ = some (.int .i64 0) := hE.cell 0
  have f0 := hB.frozen 0
  have f1 := hB.frozen 1
  have f2 := hB.frozen 2
  have fe := hE.frozen 0
  have hpl := hB.lt
  have hel := hE.lt
  have HB := Lib.hid hB
  have HE := Lib.hid hE
  clear hB hE
  unfold refusedE
  refine callsD_of_wpS Try.func38 rfl fun c₀ cs hu => ?_
  simp only [Try.ntmps38]
  simp [Array.replicate]
  apply wpS_seq
  apply wpS_region
  simp [wpOpsS, go_sem, recoverD, hu, Exit.thenS]
  refine wpS_of_wp ?_
  go_wp2_with fail
  try simp only [Act.put]
  obtain ⟨w1, hw1⟩ : ∃ w1, w1 = w.alloc (.cells #[.int .i64 f] 69) := ⟨_, rfl⟩
  have hb1 : Below w.heap.size w w1 := by rw [hw1]; exact (Below.refl _ _).alloc (Nat.le_refl _) _
  have hR1 : Blk w1 w.heap.size 69 #[.int .i64 f] := by rw [hw1]; exact Blk.new w _ _
  rw [← hw1]
  have r0 : w1.cell? ⟨w.heap.size, 0, none⟩ = some (.int .i64 f) := hR1.cell 0
  have HB1 := Lib.hid (HB.out.below hb1 hpl)
  have HE1 := Lib.hid (HE.out.below hb1 hel)
  have hrl1 := hR1.lt
  have Hb1 := Lib.hid hb1
  have hpr : pp ≠ w.heap.size := by omega
  have her : pe ≠ w.heap.size := by omega
  have hpl1 := HB1.out.lt
  have hel1 := HE1.out.lt
  clear hw1 hb1 hR1 p0 p1 p2 e0 f0 f1 f2 fe
  have p0 : w1.cell? ⟨pp, 0, none⟩ = some x := HB1.out.cell 0
  have p1 : w1.cell? ⟨pp, 1, none⟩ = some y := HB1.out.cell 1
  have p2 : w1.cell? ⟨pp, 2, none⟩ = some z := HB1.out.cell 2
  have e0 : w1.cell? ⟨pe, 0, none⟩ = some (.int .i64 0) := HE1.out.cell 0
  have f0 := HB1.out.frozen 0
  have f1 := HB1.out.frozen 1
  have f2 := HB1.out.frozen 2
  have fe := HE1.out.frozen 0
  have hne2 : pe ≠ pp := fun e => hne e.symm
  have hfin : ∀ w2 : World, w2 = ((((w1.setCell ⟨pp, 0, none⟩ (.int .i64 0)).setCell ⟨pp, 1, none⟩ (.slice none 0 0)).setCell ⟨pp, 2, none⟩ (.slice none 0 0)).setCell ⟨pe, 0, none⟩ (.int .i64 f)).drew →
      Blk w2 pp 25 #[.int .i64 0, .slice none 0 0, .slice none 0 0] ∧ Blk w2 pe 28 #[.int .i64 f] ∧ Only (fun b => b = pp ∨ b = pe) w w2 := by
    rintro w2 rfl
    have b1 := HB1.out.set_ 0 (.int .i64 0)
    have b2 := Blk.set_ b1 1 (.slice none 0 0)
    have b3 := Blk.set_ b2 2 (.slice none 0 0)
    have o1 : Only (fun b => b = pp ∨ b = pe) w w1 := Only.of_fresh Hb1.out
    have o4 := (((o1.setCell (p := ⟨pp, 0, none⟩) (.inl (.inl rfl)) (.int .i64 0)).setCell (p := ⟨pp, 1, none⟩) (.inl (.inl rfl)) (.slice none 0 0)).setCell (p := ⟨pp, 2, none⟩) (.inl (.inl rfl)) (.slice none 0 0)).setCell (p := ⟨pe, 0, none⟩) (.inl (.inr rfl)) (.int .i64 f)
    have x3 : Only (fun b => b = pp) w1 (((w1.setCell ⟨pp, 0, none⟩ (.int .i64 0)).setCell ⟨pp, 1, none⟩ (.slice none 0 0)).setCell ⟨pp, 2, none⟩ (.slice none 0 0)) := (((Only.refl (fun b => b = pp) w1).setCell (p := ⟨pp, 0, none⟩) (.inl rfl) _).setCell (p := ⟨pp, 1, none⟩) (.inl rfl) _).setCell (p := ⟨pp, 2, none⟩) (.inl rfl) _
    have e3 := HE1.out.only x3 hne2
    have e4 := Blk.set_ e3 0 (.int .i64 f)
    have b4 := Blk.only b3 ((Only.refl (fun b => b = pe) _).setCell (p := ⟨pe, 0, none⟩) (.inl rfl) (.int .i64 f)) hne
    exact ⟨b4, e4, ⟨o4.os, o4.tape, o4.output, o4.size, o4.block⟩⟩
  have Hfin := Lib.hid hfin
  clear hfin
  go_region
  all_goals refine ⟨rfl, _, rfl, _, results_none rfl _ _ _, rfl, rfl, ?_⟩
  all_goals exact Hfin.out _ rfl
end Go.Proofs.Ytadnjfoinmeloaa
