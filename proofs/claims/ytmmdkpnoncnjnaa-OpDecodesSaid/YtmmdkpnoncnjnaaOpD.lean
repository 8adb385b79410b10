/- Contracts of package op: Of, Named, Sys, SysNamed. -/
import Derived.Test.YtmmdkpnoncnjnaaOpB
import Derived.Test.YtmmdkpnoncnjnaaOpC
namespace Go.Proofs.Ytmmdkpnoncnjnaa
open Go.RowKit
attribute [local go_sem] rowVal

theorem of_any (i : Int) (w : World) :
    Calls Try.prog 10 #[.int .i64 i] w fun e w' => e = .returned (.tuple #[rowVal (rowAt shapeTab i).1, .bool (rowAt shapeTab i).2]) ∧ Below w.heap.size w w' := by
  go_enter Try.func10, Try.ntmps10
  go_wp2_with (first
    | (go_at_call 34; refine (shapes_any _).mono ?_; rintro e w1 ⟨g, rfl, hg, ht0, hb⟩; have ht : TabAt w1 g shapeTab := ht0; clear ht0; obtain ⟨hc1, hf1⟩ := bcell hb; have hz : w.heap.size < w1.heap.size := by have := hb.size; simp only [World.size_alloc] at this; omega)
    | (go_at_call 33; refine (row_any g 46 i w1 shapeTab rfl (by omega) ht).mono ?_; rintro e w2 ⟨rfl, hb2⟩; obtain ⟨hc2, hf2⟩ := bcell hb2))
  have hB : Below w.heap.size w w2 := ((Below.refl _ _).alloc (Nat.le_refl _) _).trans ((hb.mono (by simp)).trans (hb2.mono (by omega)))
  refine bodyPost_ret (v := .tuple #[rowVal (rowAt shapeTab i).1, .bool (rowAt shapeTab i).2]) ?_ rfl ⟨rfl, ?_⟩
  · simp [results, Try.results10, go_sem, hc2, hc1, hz]
  · exact (((hB.setCell (Nat.le_refl _) _).setCell (Nat.le_refl _) _).setCell (Nat.le_refl _) _).setCell (Nat.le_refl _) _

theorem sys_any (i : Int) (w : World) :
    Calls Try.prog 13 #[.int .i64 i] w fun e w' => e = .returned (.tuple #[rowVal (rowAt callTab i).1, .bool (rowAt callTab i).2]) ∧ Below w.heap.size w w' := by
  go_enter Try.func13, Try.ntmps13
  go_wp2_with (first
    | (go_at_call 36; refine (calls_any _).mono ?_; rintro e w1 ⟨g, rfl, hg, ht0, hb⟩; have ht : TabAt w1 g callTab := ht0; clear ht0; obtain ⟨hc1, hf1⟩ := bcell hb; have hz : w.heap.size < w1.heap.size := by have := hb.size; simp only [World.size_alloc] at this; omega)
    | (go_at_call 33; refine (row_any g 5 i w1 callTab rfl (by omega) ht).mono ?_; rintro e w2 ⟨rfl, hb2⟩; obtain ⟨hc2, hf2⟩ := bcell hb2))
  have hB : Below w.heap.size w w2 := ((Below.refl _ _).alloc (Nat.le_refl _) _).trans ((hb.mono (by simp)).trans (hb2.mono (by omega)))
  refine bodyPost_ret (v := .tuple #[rowVal (rowAt callTab i).1, .bool (rowAt callTab i).2]) ?_ rfl ⟨rfl, ?_⟩
  · simp [results, Try.results13, go_sem, hc2, hc1, hz]
  · exact (((hB.setCell (Nat.le_refl _) _).setCell (Nat.le_refl _) _).setCell (Nat.le_refl _) _).setCell (Nat.le_refl _) _

theorem named_any (nm : ByteArray) (w : World) :
    Calls Try.prog 11 #[.string nm] w fun e w' => e = .returned (.tuple #[.int .i64 (placeFrom nm.toList shapeTab 0).1, .bool (placeFrom nm.toList shapeTab 0).2]) ∧ Below w.heap.size w w' := by
  go_enter Try.func11, Try.ntmps11
  go_wp2_with (first
    | (go_at_call 34; refine (shapes_any _).mono ?_; rintro e w1 ⟨g, rfl, hg, ht0, hb⟩; have ht : TabAt w1 g shapeTab := ht0; clear ht0)
    | (go_at_call 35; refine (place_any g nm w1 shapeTab (by decide) ht).mono ?_; rintro e w2 ⟨rfl, hb2⟩))
  go_ret2
  exact ⟨rfl, hb.trans (hb2.mono hb.size)⟩

theorem sysNamed_any (nm : ByteArray) (w : World) :
    Calls Try.prog 14 #[.string nm] w fun e w' => e = .returned (.tuple #[.int .i64 (placeFrom nm.toList callTab 0).1, .bool (placeFrom nm.toList callTab 0).2]) ∧ Below w.heap.size w w' := by
  go_enter Try.func14, Try.ntmps14
  go_wp2_with (first
    | (go_at_call 36; refine (calls_any _).mono ?_; rintro e w1 ⟨g, rfl, hg, ht0, hb⟩; have ht : TabAt w1 g callTab := ht0; clear ht0)
    | (go_at_call 35; refine (place_any g nm w1 callTab (by decide) ht).mono ?_; rintro e w2 ⟨rfl, hb2⟩))
  go_ret2
  exact ⟨rfl, hb.trans (hb2.mono hb.size)⟩

end Go.Proofs.Ytmmdkpnoncnjnaa
