/- Contracts of the law's is and done. -/
import Derived.Test.YtefaapcekbgjoaaWritesL
namespace Go.Proofs.Ytefaapcekbgjoaa
open Go.RowKit

theorem is_yes (x : Item) (w : World) (h : isB x = true) : Calls Try.prog 18 #[x.val] w fun e w' => e = .returned (.bool true) ∧ Below w.heap.size w w' := by
  obtain ⟨kd, n, p⟩ := x
  simp only [isB, Bool.and_eq_true, decide_eq_true_eq] at h
  obtain ⟨⟨h1, h2⟩, h3⟩ := h
  have h3' : (p.ys.length : Int) ≤ 65536 := by omega
  go_enter Try.func18, Try.ntmps18
  go_wp2_with fail
  go_ret
  exact ⟨rfl, (Below.refl _ _).alloc (Nat.le_refl _) _⟩
theorem is_no (x : Item) (w : World) (h : isB x = false) (hl : x.p.ys.length ≤ 9223372036854775807) : Calls Try.prog 18 #[x.val] w fun e w' => e = .returned (.bool false) ∧ Below w.heap.size w w' := by
  obtain ⟨kd, n, p⟩ := x
  have hc : kd < 1 ∨ (1 ≤ kd ∧ 6 < kd) ∨ (1 ≤ kd ∧ kd ≤ 6 ∧ (65536 : Int) < p.ys.length) := by
    rcases Int.lt_or_le kd 1 with h1 | h1
    · exact .inl h1
    rcases Int.lt_or_le 6 kd with h2 | h2
    · exact .inr (.inl ⟨h1, h2⟩)
    refine .inr (.inr ⟨h1, h2, ?_⟩)
    rcases Nat.lt_or_ge 65536 p.ys.length with h3 | h3
    · omega
    · exfalso
      simp [isB, h1, h2, h3] at h
  dsimp only at hl
  clear h
  rcases hc with h1 | ⟨h1, h2⟩ | ⟨h1, h2, h3⟩
  all_goals
    go_enter Try.func18, Try.ntmps18
    go_wp2_with fail
    go_ret
    exact ⟨by first | rfl | exact congrArg (fun b => Ending.returned (Value.bool b)) (by simp; omega), (Below.refl _ _).alloc (Nat.le_refl _) _⟩

theorem done_law (base g : Nat) (A : Option Addr) (c : Nat) (xs : List UInt8) (f : Int) (A2 : Option Addr) (c2 : Nat) (its : List Item) (w : World) (hW : Wr w base g A c xs f) (hx : xs.length ≤ 4194304) (hI : Items w A2 its)
    (hl : its.length ≤ 9223372036854775807) (hys : ∀ x ∈ its, x.p.ys.length ≤ 70368744177664) (hspec : refFrom [] its = (doneL xs f, f)) :
    Calls Try.prog 17 #[.pointer (some ⟨g, 0, none⟩), .slice A2 its.length c2] w fun e w' => e = .returned (.bool true) ∧ Below w.heap.size w w' := by
  have hdl : (doneL xs f).length ≤ 4194304 := by
    unfold doneL; split
    · exact hx
    · simp
  have Hs := Lib.hid hspec
  have Hys := Lib.hid hys
  clear hspec hys
  go_enter Try.func17, Try.ntmps17
  go_wp2_with fail
  refine (done_any base g A c xs f w hW hx).mono ?_
  rintro e w1 hpost
  obtain ⟨A3, c3, rfl, hown3, hb1⟩ := hpost
  go_wp2_with fail
  refine (refDone_any A2 c2 its w1 (hI.below hb1) hl Hys.out).mono ?_
  rintro e w2 hpost
  rw [Hs.out] at hpost
  obtain ⟨A4, c4, rfl, hown4, hb2⟩ := hpost
  dsimp only at hown4
  generalize doneL xs f = ds at *
  have hff : (f == f) = true := by simp
  have hsame := same_any ⟨A3, c3, ds⟩ ⟨A4, c4, ds⟩ w2 ((Sl.of_own hown3).below hb2) (Sl.of_own hown4) (by dsimp only; omega) (by dsimp only; omega)
  dsimp only at hsame
  rw [show (ds == ds) = true from by simp] at hsame
  have Hsame := Lib.hid hsame
  clear hsame
  go_wp2_with fail
  refine Hsame.out.mono ?_
  rintro e w3 ⟨rfl, n, rfl⟩
  go_wp2_with fail
  go_ret
  exact ⟨rfl, below_drewN (hb1.trans (hb2.mono hb1.size)) n⟩
end Go.Proofs.Ytefaapcekbgjoaa
