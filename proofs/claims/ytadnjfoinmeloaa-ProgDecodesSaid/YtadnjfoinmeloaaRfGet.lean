/- The reference's get (chapter 12's). -/
import Derived.Test.YtadnjfoinmeloaaRfRB
namespace Go.Proofs.Ytadnjfoinmeloaa
open Go.RowKit

set_option maxRecDepth 100000 in
theorem rfGetN_any (g c at_ : Nat) (A : Option Addr) (bs : List UInt8) (w : World) (h : RR w g A c bs at_ 0) (hl : bs.length ≤ 140737488351232) :
    Calls Try.prog 45 #[.pointer (some ⟨g, 0, none⟩), .int .i64 1] w (RRead w g A c bs at_ 1 (stepN (rNumL bs at_) at_)) := by
  obtain ⟨w0, hw0⟩ : ∃ w0, w0 = w.alloc (.cells #[.int .i64 0, .int .i64 0, .slice none 0 0] 66) := ⟨_, rfl⟩
  have hb0 : Below w.heap.size w w0 := by rw [hw0]; exact (Below.refl _ _).alloc (Nat.le_refl _) _
  have hY0 : Blk w0 w.heap.size 66 #[.int .i64 0, .int .i64 0, .slice none 0 0] := by rw [hw0]; exact Blk.new w _ _
  have k2 := h.c2
  have hgl := h.blk.lt
  have H := Lib.hid h
  have Hr := Lib.hid (rfReadN_any g c at_ A bs w0 (h.below hb0) hl)
  have Hw0 := Lib.hid hw0
  have Hb0 := Lib.hid hb0
  have HY0 := Lib.hid hY0
  clear h hw0 hb0 hY0
  go_enter Try.func45, Try.ntmps45
  go_wp2_with fail
  rw [← Hw0.out]
  refine Hr.out.mono ?_
  have hgy : w.heap.size ≠ g := by omega
  have hAy : bs ≠ [] → ∀ b o, A = some ⟨b, o, none⟩ → b ≠ w.heap.size := fun hn b o e => by have := H.out.lt hn b o e; omega
  have HAy := Lib.hid hAy
  clear hAy
  rintro e w1 (⟨n, a2, hr, rfl, hR, hO⟩ | ⟨f, hr, rfl, hR, hO⟩)
  · have hY1 := HY0.out.only hO hgy
    have y0 : w1.cell? ⟨w.heap.size, 0, none⟩ = some (.int .i64 0) := hY1.cell 0
    have y1 : w1.cell? ⟨w.heap.size, 1, none⟩ = some (.int .i64 0) := hY1.cell 1
    have y2 : w1.cell? ⟨w.heap.size, 2, none⟩ = some (.slice none 0 0) := hY1.cell 2
    have yf0 := hY1.frozen 0
    have yf1 := hY1.frozen 1
    have yf2 := hY1.frozen 2
    have hyl := hY1.lt
    have HR1 := Lib.hid hR
    have HO1 := Lib.hid ((Only.of_fresh (S := fun b => b = g) Hb0.out).trans hO)
    have Hq := Lib.hid hr
    clear hr hR hO hY1 Hr
    unfold itemV
    go_wp2_with fail
    refine bodyPost_ret (v := itemV 1 n) ?_ rfl (.inl ⟨n, a2, Hq.out, rfl, ?_, ?_⟩)
    · simp [results, Try.results45, go_sem, itemV, y0, y1, y2]
    · exact ((HR1.out.setFar ⟨w.heap.size, 0, none⟩ hgy HAy.out _).setFar ⟨w.heap.size, 1, none⟩ hgy HAy.out _).setFar ⟨w.heap.size, 2, none⟩ hgy HAy.out _
    · exact (((HO1.out.setCell (p := ⟨w.heap.size, 0, none⟩) (.inr (Nat.le_refl _)) _).setCell (p := ⟨w.heap.size, 1, none⟩) (.inr (Nat.le_refl _)) _).setCell (p := ⟨w.heap.size, 2, none⟩) (.inr (Nat.le_refl _)) _)
  · have hY1 := HY0.out.only hO hgy
    have y0 : w1.cell? ⟨w.heap.size, 0, none⟩ = some (.int .i64 0) := hY1.cell 0
    have y1 : w1.cell? ⟨w.heap.size, 1, none⟩ = some (.int .i64 0) := hY1.cell 1
    have y2 : w1.cell? ⟨w.heap.size, 2, none⟩ = some (.slice none 0 0) := hY1.cell 2
    have yf0 := hY1.frozen 0
    have yf1 := hY1.frozen 1
    have yf2 := hY1.frozen 2
    have hyl := hY1.lt
    have HR1 := Lib.hid hR
    have HO1 := Lib.hid ((Only.of_fresh (S := fun b => b = g) Hb0.out).trans hO)
    have Hq := Lib.hid hr
    clear hr hR hO hY1 Hr
    unfold itemV
    go_wp2_with fail
    refine bodyPost_ret (v := itemV 1 0) ?_ rfl (.inr ⟨f, Hq.out, rfl, ?_, ?_⟩)
    · simp [results, Try.results45, go_sem, itemV, y0, y1, y2]
    · exact ((HR1.out.setFar ⟨w.heap.size, 0, none⟩ hgy HAy.out _).setFar ⟨w.heap.size, 1, none⟩ hgy HAy.out _).setFar ⟨w.heap.size, 2, none⟩ hgy HAy.out _
    · exact (((HO1.out.setCell (p := ⟨w.heap.size, 0, none⟩) (.inr (Nat.le_refl _)) _).setCell (p := ⟨w.heap.size, 1, none⟩) (.inr (Nat.le_refl _)) _).setCell (p := ⟨w.heap.size, 2, none⟩) (.inr (Nat.le_refl _)) _)
theorem rfGetE_any (g c at_ : Nat) (A : Option Addr) (bs : List UInt8) (f kd : Int) (w : World) (h : RR w g A c bs at_ f) (hf : ¬ f = 0) :
    Calls Try.prog 45 #[.pointer (some ⟨g, 0, none⟩), .int .i64 kd] w fun e w' => e = .returned (.agg #[.int .i64 0, .int .i64 0, .slice none 0 0]) ∧ Below w.heap.size w w' := by
  have k2 := h.c2
  have hgl := h.blk.lt
  have t1 : (f == 0) = false := by simpa using hf
  have t2 : (f != 0) = true := by simpa using hf
  clear h
  go_enter Try.func45, Try.ntmps45
  go_wp2_with fail
  all_goals
    refine bodyPost_ret (v := .agg #[.int .i64 0, .int .i64 0, .slice none 0 0]) ?_ rfl ⟨rfl, (Below.refl _ _).alloc (Nat.le_refl _) _⟩
    simp [results, Try.results45, go_sem]
end Go.Proofs.Ytadnjfoinmeloaa
