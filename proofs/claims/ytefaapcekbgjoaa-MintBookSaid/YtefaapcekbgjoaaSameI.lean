/- The walk of the law's same: things that were told as they were put. -/
import Derived.Test.YtefaapcekbgjoaaRun
namespace Go.Proofs.Ytefaapcekbgjoaa
open Go.RowKit

set_option maxRecDepth 100000 in
set_option maxHeartbeats 1000000 in
theorem sameI_any (AT AW : Option Addr) (cT cW : Nat) (told all : List Item) (w : World) (hT : RV w AT (told.flatMap itemCells)) (hW : RV w AW (all.flatMap itemCells)) (hlen : told.length = all.length)
    (hmat : ∀ j, j < all.length → ∀ (h2 : j < all.length), ∃ y, told[j]? = some y ∧ As y all[j]) (hst : ∀ y ∈ told, Sl w y.p) (hsw : ∀ x ∈ all, Sl w x.p) (hbl : ∀ x ∈ all, x.p.ys.length ≤ 140737488355328) (hn : all.length ≤ 1000000) :
    Calls Try.prog 51 #[.slice AT all.length cT, .slice AW all.length cW] w fun e w' => e = .returned (.bool true) ∧ ∃ m, w' = w.drewN m := by
  have HT := Lib.hid hT
  have HW := Lib.hid hW
  have Hmat := Lib.hid hmat
  have Hst := Lib.hid hst
  have Hsw := Lib.hid hsw
  have Hbl := Lib.hid hbl
  have Hlen := Lib.hid hlen
  clear hT hW hmat hst hsw hbl hlen
  go_enter Try.func51, Try.ntmps51
  go_wp2_with fail
  go_loopw [5] (fun i wr => ∃ k : Nat, k ≤ all.length ∧ i = .int .i64 k ∧ ∃ m, wr = w.drewN m) (fun i _ => all.length - (intOf i).toNat)
  case atStart => exact ⟨0, Nat.zero_le _, rfl, 0, rfl⟩
  case round =>
    obtain ⟨k, hk, rfl, m, rfl⟩ := hrel
    by_cases hlt : k < all.length
    · have g1 : (k : Int) < (all.length : Int) := by omega
      obtain ⟨y, hy, hAs⟩ := Hmat.out k hlt hlt
      have hlt2 : k < told.length := by rw [Hlen.out]; exact hlt
      have hyk : told[k] = y := by rw [List.getElem?_eq_getElem hlt2] at hy; injection hy
      have hTr := HT.out
      have hWr := HW.out
      have cells : ∀ (A : Option Addr) (l : List Item) (hl : k < l.length), RV w A (l.flatMap itemCells) → ∃ b off, A = some ⟨b, off, none⟩ ∧ b < w.heap.size ∧ w.cell? ⟨b, off + k * 3, none⟩ = some (.int .i64 l[k].kind) ∧ w.cell? ⟨b, off + k * 3 + 1, none⟩ = some (.int .i64 l[k].n) ∧ w.cell? ⟨b, off + k * 3 + 2, none⟩ = some (.slice l[k].p.A l[k].p.ys.length l[k].p.c) := by
        intro A l hl h
        have hcells := fun j (hj : j < 3) => flatMap_get itemCells 3 (fun _ => rfl) l k j l[k] (List.getElem?_eq_getElem hl) hj
        have hll : (l.flatMap itemCells).length = l.length * 3 := length_flatMap_const _ 3 (fun _ => rfl) _
        obtain ⟨b, off, rfl, hb, hc⟩ := h.at_ (by rw [hll]; omega)
        exact ⟨b, off, rfl, hb, hc _ _ (hcells 0 (by omega)), by have := hc _ _ (hcells 1 (by omega)); rwa [← Nat.add_assoc] at this, by have := hc _ _ (hcells 2 (by omega)); rwa [← Nat.add_assoc] at this⟩
      obtain ⟨b1, o1, rfl, hb1, t0, t1, t2⟩ := cells AT told hlt2 hTr
      obtain ⟨b2, o2, rfl, hb2, u0, u1, u2⟩ := cells AW all hlt hWr
      rw [hyk] at t0 t1 t2
      have hyt : y ∈ told := hyk ▸ List.getElem_mem hlt2
      have hxa : all[k] ∈ all := List.getElem_mem hlt
      have hs1 := Hst.out y hyt
      have hs2 := Hsw.out _ hxa
      have hbx := Hbl.out _ hxa
      generalize all[k] = x at *
      obtain ⟨a1, a2, a3, a4⟩ := hAs
      rw [a1] at t0
      by_cases hk3 : x.kind ≤ 3
      · rw [a2 hk3] at t1
        have g2 : (3 < x.kind) = False := by rw [eq_iff_iff, iff_false]; omega
        have g3 : decide (3 < x.kind) = false := by rw [decide_eq_false_iff_not]; omega
        clear cells hTr hWr hy hyk hyt hxa hs1 hs2 a2 a3 a4 a1 g2
        go_wp2_with fail
        refine region_quiet (fun w' => ∃ n, w' = w.drewN n) (by kernel_rfl) (by kernel_rfl) ⟨m + 1, rfl⟩ ?_
        repeat (go_big_quiet_step (fail))
        refine wpQuiet_nil ?_
        rintro _ ⟨n, rfl⟩
        go_wp2_with fail
        exact ⟨⟨k + 1, by omega, by go_num, n, rfl⟩, by simp [intOf]; omega⟩
      · have hk4 : ¬ x.kind ≤ 3 := hk3
        have e := a3 (by omega)
        rw [e] at t2
        have g3 : decide (x.kind ≤ 3) = false := by rw [decide_eq_false_iff_not]; omega
        have g4 : 3 < x.kind := by omega
        have hsame := fun n => same_any ⟨y.p.A, y.p.c, x.p.ys⟩ ⟨x.p.A, x.p.c, x.p.ys⟩ (w.drewN n) ((show Sl w ⟨y.p.A, y.p.c, x.p.ys⟩ from e ▸ hs1).drewN n) (hs2.drewN n) (by dsimp only; omega) (by dsimp only; omega)
        dsimp only at hsame
        rw [show (x.p.ys == x.p.ys) = true from by simp] at hsame
        have Hsame := Lib.hid hsame
        clear cells hTr hWr hy hyk hyt hxa hs1 hs2 a2 a3 a4 a1 e hsame hk3 hk4
        go_wp2_with fail
        refine region_quiet (fun w' => ∃ n, w' = w.drewN n) (by kernel_rfl) (by kernel_rfl) ⟨m + 1, rfl⟩ ?_
        repeat (go_big_quiet_step (exact Calls.quiet_of (Hsame.out _)))
        refine wpQuiet_nil ?_
        rintro _ ⟨n, rfl⟩
        go_wp2_with fail
        exact ⟨⟨k + 1, by omega, by go_num, n, rfl⟩, by simp [intOf]; omega⟩
    · obtain rfl : k = all.length := by omega
      go_wp2_with fail
      go_ret
      exact ⟨rfl, m, rfl⟩
end Go.Proofs.Ytefaapcekbgjoaa
