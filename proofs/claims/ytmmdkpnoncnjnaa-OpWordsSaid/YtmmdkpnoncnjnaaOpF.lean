/- Proved here: the law retortlaw11.OpWords, as a walk: called in any world it returns true, and nothing that was there has turned. -/
import Derived.Test.YtmmdkpnoncnjnaaOpE
namespace Go.Proofs.Ytmmdkpnoncnjnaa
open Go.RowKit

set_option maxRecDepth 100000 in
set_option maxHeartbeats 2000000 in
theorem opWords_walk (w : World) : Calls Try.prog 3 #[] w fun e w' => e = .returned (.bool true) ∧ Below w.heap.size w w' := by
  go_enter Try.func3, Try.ntmps3
  go_wp2
  go_loopw [1] (fun i wr => ∃ k : Nat, k ≤ 46 ∧ i = .int .i64 k ∧ Below w.heap.size w wr) (fun i _ => 46 - (intOf i).toNat)
  case atStart => exact ⟨0, Nat.zero_le _, rfl, Below.refl _ _⟩
  obtain ⟨k, hk, rfl, hB⟩ := hrel
  by_cases hlt : k < 46
  · obtain ⟨r, hr0, hp0, hg0, hall0⟩ := tabGood_row shapeTab shape_good k hlt
    have hr := Lib.hid hr0
    have hp := Lib.hid hp0
    have hg := Lib.hid hg0
    have Hall := Lib.hid hall0
    clear hr0 hp0 hg0 hall0
    go_wp2_with fail
    refine (of_ok k r _ hr.out).mono ?_
    rintro e w1 ⟨rfl, hb1⟩
    have hB1 : Below w.heap.size w w1 := hB.trans (hb1.mono hB.size)
    clear hb1
    go_wp2_with fail
    refine (named_ok k r.1 _ hp.out).mono ?_
    rintro e w2 ⟨rfl, hb2⟩
    obtain ⟨hc2, hf2⟩ := bcell hb2
    have hz2 : w1.heap.size < w2.heap.size := by have := hb2.size; simp only [World.size_alloc] at this; omega
    have hB2 : Below w.heap.size w w2 := (hB1.alloc hB1.size _).trans (hb2.mono (by have := hB1.size; simp only [World.size_alloc]; omega))
    clear hb2
    go_wp2_with fail
    refine (letters_ok r.1 _ hg.out).mono ?_
    rintro e w3 ⟨rfl, rfl⟩
    go_wp2_with fail
    have hcell : w2.cell? ⟨w1.heap.size, 0, none⟩ = some (.string ⟨r.1.toArray⟩) := by simp [hc2]
    clear hc2 hf2
    go_loopw [6] (fun i wr => ∃ j : Nat, j ≤ k ∧ i = .int .i64 j ∧ Below w.heap.size w wr ∧ wr.cell? ⟨w1.heap.size, 0, none⟩ = some (.string ⟨r.1.toArray⟩) ∧ w1.heap.size < wr.heap.size) (fun i _ => k - (intOf i).toNat)
    case atStart => exact ⟨0, Nat.zero_le _, rfl, hB2, hcell, hz2⟩
    obtain ⟨j, hj, rfl, hBj, hcj, hzj⟩ := hrel
    clear hcell
    by_cases hltj : j < k
    · obtain ⟨r', hr1, hne0⟩ := Hall.out j hltj
      have hr' := Lib.hid hr1
      clear hr1
      go_wp2_with fail
      refine (of_ok j r' _ hr'.out).mono ?_
      rintro e w4 ⟨rfl, hb4⟩
      obtain ⟨hc4, hf4⟩ := bcell hb4
      have hz4 : w1.heap.size < w4.heap.size := by have := hb4.size; omega
      have hB4 : Below w.heap.size w w4 := hBj.trans (hb4.mono hBj.size)
      clear hb4
      go_wp2_with fail
      exact ⟨⟨j + 1, by omega, by go_num, hB4.alloc hB4.size _, (World.cell?_alloc_past _ _ _ hz4).trans ((hc4 _ _ hzj).trans hcj), by first | exact hz4 | (simp; omega) | omega⟩, by simp [intOf]; omega⟩
    · go_wp2_with fail
      exact ⟨⟨k + 1, by omega, by go_num, hBj⟩, by simp [intOf]; omega⟩
  go_wp2_with fail
  clear hlt hk
  go_loopw [9] (fun i wr => ∃ k : Nat, k ≤ 5 ∧ i = .int .i64 k ∧ Below w.heap.size w wr) (fun i _ => 5 - (intOf i).toNat)
  case atStart => exact ⟨0, Nat.zero_le _, rfl, hB⟩
  obtain ⟨k, hk, rfl, hB⟩ := hrel
  by_cases hlt : k < 5
  · obtain ⟨r, hr0, hp0, hg0, hall0⟩ := tabGood_row callTab call_good k hlt
    have hr := Lib.hid hr0
    have hp := Lib.hid hp0
    have hg := Lib.hid hg0
    have Hall := Lib.hid hall0
    clear hr0 hp0 hg0 hall0
    go_wp2_with fail
    refine (sys_ok k r _ hr.out).mono ?_
    rintro e w1 ⟨rfl, hb1⟩
    have hB1 : Below w.heap.size w w1 := hB.trans (hb1.mono hB.size)
    clear hb1
    go_wp2_with fail
    refine (sysNamed_ok k r.1 _ hp.out).mono ?_
    rintro e w2 ⟨rfl, hb2⟩
    obtain ⟨hc2, hf2⟩ := bcell hb2
    have hz2 : w1.heap.size < w2.heap.size := by have := hb2.size; simp only [World.size_alloc] at this; omega
    have hB2 : Below w.heap.size w w2 := (hB1.alloc hB1.size _).trans (hb2.mono (by have := hB1.size; simp only [World.size_alloc]; omega))
    clear hb2
    go_wp2_with fail
    refine (letters_ok r.1 _ hg.out).mono ?_
    rintro e w3 ⟨rfl, rfl⟩
    go_wp2_with fail
    have hcell : w2.cell? ⟨w1.heap.size, 0, none⟩ = some (.string ⟨r.1.toArray⟩) := by simp [hc2]
    clear hc2 hf2
    go_loopw [14] (fun i wr => ∃ j : Nat, j ≤ k ∧ i = .int .i64 j ∧ Below w.heap.size w wr ∧ wr.cell? ⟨w1.heap.size, 0, none⟩ = some (.string ⟨r.1.toArray⟩) ∧ w1.heap.size < wr.heap.size) (fun i _ => k - (intOf i).toNat)
    case atStart => exact ⟨0, Nat.zero_le _, rfl, hB2, hcell, hz2⟩
    obtain ⟨j, hj, rfl, hBj, hcj, hzj⟩ := hrel
    clear hcell
    by_cases hltj : j < k
    · obtain ⟨r', hr1, hne0⟩ := Hall.out j hltj
      have hr' := Lib.hid hr1
      clear hr1
      go_wp2_with fail
      refine (sys_ok j r' _ hr'.out).mono ?_
      rintro e w4 ⟨rfl, hb4⟩
      obtain ⟨hc4, hf4⟩ := bcell hb4
      have hz4 : w1.heap.size < w4.heap.size := by have := hb4.size; omega
      have hB4 : Below w.heap.size w w4 := hBj.trans (hb4.mono hBj.size)
      clear hb4
      go_wp2_with fail
      exact ⟨⟨j + 1, by omega, by go_num, hB4.alloc hB4.size _, (World.cell?_alloc_past _ _ _ hz4).trans ((hc4 _ _ hzj).trans hcj), by first | exact hz4 | (simp; omega) | omega⟩, by simp [intOf]; omega⟩
    · go_wp2_with fail
      exact ⟨⟨k + 1, by omega, by go_num, hBj⟩, by simp [intOf]; omega⟩
  go_wp2_with fail
  go_ret
  exact ⟨rfl, hB⟩
end Go.Proofs.Ytmmdkpnoncnjnaa
