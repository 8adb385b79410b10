/- The reference's Reader: one call of it. -/
import Derived.Test.YtefaapcekbgjoaaRfRB
import Derived.Test.YtefaapcekbgjoaaMrW
import Derived.Deep.CutRange
import Derived.BigQuiet
namespace Go.Proofs.Ytefaapcekbgjoaa
open Go.RowKit

set_option maxRecDepth 100000 in
set_option maxHeartbeats 2000000 in
theorem refN_any (g c at_ : Nat) (n : Int) (A : Option Addr) (bs : List UInt8) (w : World) (h : RR w g A c bs at_ 0) (hl : bs.length ≤ 140737488351232) :
    Calls Try.prog 79 #[.pointer (some ⟨g, 0, none⟩), .int .i64 1, .int .i64 n] w (RRead w g A c bs at_ 1 (stepN (rNumL bs at_) at_)) := by
  have hgl := h.blk.lt
  have H := Lib.hid h
  clear h
  go_enter Try.func79, Try.ntmps79
  go_wp2_with fail
  obtain ⟨w1, hw1⟩ : ∃ w1, w1 = (w.alloc (.cells #[.int .i64 0, .int .i64 0, .slice none 0 0] 30)).alloc (.cells #[.int .i64 1, .int .i64 0, .slice none 0 0] 30) := ⟨_, rfl⟩
  rw [← hw1]
  have hb1 : Below w.heap.size w w1 := by rw [hw1]; exact ((Below.refl _ _).alloc (Nat.le_refl _) _).alloc (by simp) _
  have hX1 : Blk w1 (w.heap.size + 1) 30 #[.int .i64 1, .int .i64 0, .slice none 0 0] := by
    rw [hw1]
    have h := Blk.new (w.alloc (.cells #[.int .i64 0, .int .i64 0, .slice none 0 0] 30)) 30 #[.int .i64 1, .int .i64 0, .slice none 0 0]
    rw [World.size_alloc] at h
    exact h
  have hY1 : Blk w1 w.heap.size 30 #[.int .i64 0, .int .i64 0, .slice none 0 0] := by rw [hw1]; exact (Blk.new w _ _).alloc _
  obtain ⟨R, hR⟩ : ∃ R, R = rNumL bs at_ := ⟨_, rfl⟩
  have hn := rfNum_any g c at_ A bs w1 (H.out.below hb1) hl
  rw [← hR] at hn
  have HX1 := Lib.hid hX1
  have HY1 := Lib.hid hY1
  have Hn := Lib.hid hn
  have HR := Lib.hid hR
  have Hb1 := Lib.hid hb1
  clear hn hX1 hY1 hw1 hb1
  rw [← hR]
  clear hR
  refine Hn.out.mono ?_
  rintro e w2 (⟨u, k, hr, rfl, hR2, hO2⟩ | ⟨f, hr, rfl, hR2, hO2⟩)
  · have hX2 := HX1.out.only hO2 (by omega)
    have hY2 := HY1.out.only hO2 (by omega)
    have x0 : w2.cell? ⟨w.heap.size + 1, 0, none⟩ = some (.int .i64 1) := hX2.cell 0
    have x1 : w2.cell? ⟨w.heap.size + 1, 1, none⟩ = some (.int .i64 0) := hX2.cell 1
    have x2 : w2.cell? ⟨w.heap.size + 1, 2, none⟩ = some (.slice none 0 0) := hX2.cell 2
    have xf1 := hX2.frozen 1
    have y0 : w2.cell? ⟨w.heap.size, 0, none⟩ = some (.int .i64 0) := hY2.cell 0
    have y1 : w2.cell? ⟨w.heap.size, 1, none⟩ = some (.int .i64 0) := hY2.cell 1
    have y2 : w2.cell? ⟨w.heap.size, 2, none⟩ = some (.slice none 0 0) := hY2.cell 2
    have yf0 := hY2.frozen 0
    have yf1 := hY2.frozen 1
    have yf2 := hY2.frozen 2
    have hxl := hX2.lt
    have hyl := hY2.lt
    have k1 := hR2.c1
    have kf := hR2.blk.frozen 1
    have kl := hR2.blk.lt
    have hgx : w.heap.size + 1 ≠ g := by omega
    have hgy : w.heap.size ≠ g := by omega
    have hlt := rNum_lt (HR.out ▸ hr)
    have HR2 := Lib.hid hR2
    have HO2 := Lib.hid hO2
    clear hX2 hY2 Hn hR2 hO2
    go_wp2_with fail
    have hres : stepN (rNumL bs at_) at_ = .ok ((u : Int), at_ + k) := by rw [← HR.out, hr]; rfl
    have hAx : bs ≠ [] → ∀ b o, A = some ⟨b, o, none⟩ → b ≠ w.heap.size + 1 := fun hn b o e => by have := H.out.lt hn b o e; omega
    have hAy : bs ≠ [] → ∀ b o, A = some ⟨b, o, none⟩ → b ≠ w.heap.size := fun hn b o e => by have := H.out.lt hn b o e; omega
    refine bodyPost_ret (v := itemV 1 (u : Int)) ?_ rfl (.inl ⟨(u : Int), at_ + k, hres, rfl, ?_, ?_⟩)
    · simp [results, Try.results79, go_sem, itemV, y0, y1, y2]
    · rw [← Int.natCast_add]
      exact ((((HR2.out.setFar ⟨w.heap.size + 1, 1, none⟩ hgx hAx _).setAt (at_ + k) hlt.2.2.1).setFar ⟨w.heap.size, 0, none⟩ hgy hAy _).setFar ⟨w.heap.size, 1, none⟩ hgy hAy _).setFar ⟨w.heap.size, 2, none⟩ hgy hAy _
    · exact ((((((Only.of_fresh (S := fun b => b = g) Hb1.out).trans HO2.out).setCell (p := ⟨w.heap.size + 1, 1, none⟩) (.inr (Nat.le_succ _)) _).setCell (p := ⟨g, 1, none⟩) (.inl rfl) _).setCell (p := ⟨w.heap.size, 0, none⟩) (.inr (Nat.le_refl _)) _).setCell (p := ⟨w.heap.size, 1, none⟩) (.inr (Nat.le_refl _)) _).setCell (p := ⟨w.heap.size, 2, none⟩) (.inr (Nat.le_refl _)) _
  · have hX2 := HX1.out.only hO2 (by omega)
    have hY2 := HY1.out.only hO2 (by omega)
    have x0 : w2.cell? ⟨w.heap.size + 1, 0, none⟩ = some (.int .i64 1) := hX2.cell 0
    have x1 : w2.cell? ⟨w.heap.size + 1, 1, none⟩ = some (.int .i64 0) := hX2.cell 1
    have x2 : w2.cell? ⟨w.heap.size + 1, 2, none⟩ = some (.slice none 0 0) := hX2.cell 2
    have xf1 := hX2.frozen 1
    have y0 : w2.cell? ⟨w.heap.size, 0, none⟩ = some (.int .i64 0) := hY2.cell 0
    have y1 : w2.cell? ⟨w.heap.size, 1, none⟩ = some (.int .i64 0) := hY2.cell 1
    have y2 : w2.cell? ⟨w.heap.size, 2, none⟩ = some (.slice none 0 0) := hY2.cell 2
    have yf0 := hY2.frozen 0
    have yf1 := hY2.frozen 1
    have yf2 := hY2.frozen 2
    have hxl := hX2.lt
    have hyl := hY2.lt
    have k1 := hR2.c1
    have kf := hR2.blk.frozen 1
    have kl := hR2.blk.lt
    have hgx : w.heap.size + 1 ≠ g := by omega
    have hgy : w.heap.size ≠ g := by omega
    have hle2 := hR2.le
    have HR2 := Lib.hid hR2
    have HO2 := Lib.hid hO2
    clear hX2 hY2 Hn hR2 hO2
    go_wp2_with fail
    have hres : stepN (rNumL bs at_) at_ = .error f := by rw [← HR.out, hr]; rfl
    have hAx : bs ≠ [] → ∀ b o, A = some ⟨b, o, none⟩ → b ≠ w.heap.size + 1 := fun hn b o e => by have := H.out.lt hn b o e; omega
    have hAy : bs ≠ [] → ∀ b o, A = some ⟨b, o, none⟩ → b ≠ w.heap.size := fun hn b o e => by have := H.out.lt hn b o e; omega
    refine bodyPost_ret (v := itemV 1 0) ?_ rfl (.inr ⟨f, hres, rfl, ?_, ?_⟩)
    · simp [results, Try.results79, go_sem, itemV, y0, y1, y2]
    · exact ((((HR2.out.setFar ⟨w.heap.size + 1, 1, none⟩ hgx hAx _).setAt at_ hle2).setFar ⟨w.heap.size, 0, none⟩ hgy hAy _).setFar ⟨w.heap.size, 1, none⟩ hgy hAy _).setFar ⟨w.heap.size, 2, none⟩ hgy hAy _
    · exact ((((((Only.of_fresh (S := fun b => b = g) Hb1.out).trans HO2.out).setCell (p := ⟨w.heap.size + 1, 1, none⟩) (.inr (Nat.le_succ _)) _).setCell (p := ⟨g, 1, none⟩) (.inl rfl) _).setCell (p := ⟨w.heap.size, 0, none⟩) (.inr (Nat.le_refl _)) _).setCell (p := ⟨w.heap.size, 1, none⟩) (.inr (Nat.le_refl _)) _).setCell (p := ⟨w.heap.size, 2, none⟩) (.inr (Nat.le_refl _)) _
set_option maxRecDepth 100000 in
set_option maxHeartbeats 2000000 in
theorem refI_any (g c at_ : Nat) (n : Int) (A : Option Addr) (bs : List UInt8) (w : World) (h : RR w g A c bs at_ 0) (hl : bs.length ≤ 140737488351232) :
    Calls Try.prog 79 #[.pointer (some ⟨g, 0, none⟩), .int .i64 2, .int .i64 n] w (RRead w g A c bs at_ 2 (stepI (numberL bs at_) at_)) := by
  have hgl := h.blk.lt
  have H := Lib.hid h
  clear h
  go_enter Try.func79, Try.ntmps79
  go_wp2_with fail
  obtain ⟨w1, hw1⟩ : ∃ w1, w1 = (w.alloc (.cells #[.int .i64 0, .int .i64 0, .slice none 0 0] 30)).alloc (.cells #[.int .i64 2, .int .i64 0, .slice none 0 0] 30) := ⟨_, rfl⟩
  rw [← hw1]
  have hb1 : Below w.heap.size w w1 := by rw [hw1]; exact ((Below.refl _ _).alloc (Nat.le_refl _) _).alloc (by simp) _
  have hX1 : Blk w1 (w.heap.size + 1) 30 #[.int .i64 2, .int .i64 0, .slice none 0 0] := by
    rw [hw1]
    have h := Blk.new (w.alloc (.cells #[.int .i64 0, .int .i64 0, .slice none 0 0] 30)) 30 #[.int .i64 2, .int .i64 0, .slice none 0 0]
    rw [World.size_alloc] at h
    exact h
  have hY1 : Blk w1 w.heap.size 30 #[.int .i64 0, .int .i64 0, .slice none 0 0] := by rw [hw1]; exact (Blk.new w _ _).alloc _
  obtain ⟨R, hR⟩ : ∃ R, R = numberL bs at_ := ⟨_, rfl⟩
  have hn := rfNumber_any g c at_ A bs w1 (H.out.below hb1) hl
  rw [← hR] at hn
  have HX1 := Lib.hid hX1
  have HY1 := Lib.hid hY1
  have Hn := Lib.hid hn
  have HR := Lib.hid hR
  have Hb1 := Lib.hid hb1
  clear hn hX1 hY1 hw1 hb1
  rw [← hR]
  clear hR
  refine Hn.out.mono ?_
  rintro e w2 (⟨u, k, hr, rfl, hR2, hO2⟩ | ⟨f, hr, rfl, hR2, hO2⟩)
  · have hX2 := HX1.out.only hO2 (by omega)
    have hY2 := HY1.out.only hO2 (by omega)
    have x0 : w2.cell? ⟨w.heap.size + 1, 0, none⟩ = some (.int .i64 2) := hX2.cell 0
    have x1 : w2.cell? ⟨w.heap.size + 1, 1, none⟩ = some (.int .i64 0) := hX2.cell 1
    have x2 : w2.cell? ⟨w.heap.size + 1, 2, none⟩ = some (.slice none 0 0) := hX2.cell 2
    have xf1 := hX2.frozen 1
    have y0 : w2.cell? ⟨w.heap.size, 0, none⟩ = some (.int .i64 0) := hY2.cell 0
    have y1 : w2.cell? ⟨w.heap.size, 1, none⟩ = some (.int .i64 0) := hY2.cell 1
    have y2 : w2.cell? ⟨w.heap.size, 2, none⟩ = some (.slice none 0 0) := hY2.cell 2
    have yf0 := hY2.frozen 0
    have yf1 := hY2.frozen 1
    have yf2 := hY2.frozen 2
    have hxl := hX2.lt
    have hyl := hY2.lt
    have k1 := hR2.c1
    have kf := hR2.blk.frozen 1
    have kl := hR2.blk.lt
    have hgx : w.heap.size + 1 ≠ g := by omega
    have hgy : w.heap.size ≠ g := by omega
    have hlt := number_lt (HR.out ▸ hr)
    have HR2 := Lib.hid hR2
    have HO2 := Lib.hid hO2
    clear hX2 hY2 Hn hR2 hO2
    have hres : stepI (numberL bs at_) at_ = .ok (unfoldN u, at_ + k) := by rw [← HR.out, hr]; rfl
    have hAx : bs ≠ [] → ∀ b o, A = some ⟨b, o, none⟩ → b ≠ w.heap.size + 1 := fun hn b o e => by have := H.out.lt hn b o e; omega
    have hAy : bs ≠ [] → ∀ b o, A = some ⟨b, o, none⟩ → b ≠ w.heap.size := fun hn b o e => by have := H.out.lt hn b o e; omega
    have hband : bits .and .u64 (u : Int) 1 = ((u % 2 : Nat) : Int) := and_one64 u hlt.1
    obtain ⟨hu64, hk1, hak⟩ := hlt
    have Hres := Lib.hid hres
    clear hres
    by_cases hp : u % 2 = 0
    · have g1 : ¬ ((u % 2 : Nat) : Int) = 1 := by omega
      have e1 : unfoldN u = (u : Int) / 2 := by unfold unfoldN; rw [if_pos hp]; omega
      rw [hp] at hband
      go_wp2_with fail
      refine bodyPost_ret (v := itemV 2 (unfoldN u)) ?_ rfl (.inl ⟨unfoldN u, at_ + k, Hres.out, rfl, ?_, ?_⟩)
      · rw [e1]
        simp [results, Try.results79, go_sem, itemV, y0, y1, y2]
      · rw [← Int.natCast_add]
        exact ((((HR2.out.setFar ⟨w.heap.size + 1, 1, none⟩ hgx hAx _).setAt (at_ + k) hak).setFar ⟨w.heap.size, 0, none⟩ hgy hAy _).setFar ⟨w.heap.size, 1, none⟩ hgy hAy _).setFar ⟨w.heap.size, 2, none⟩ hgy hAy _
      · exact ((((((Only.of_fresh (S := fun b => b = g) Hb1.out).trans HO2.out).setCell (p := ⟨w.heap.size + 1, 1, none⟩) (.inr (Nat.le_succ _)) _).setCell (p := ⟨g, 1, none⟩) (.inl rfl) _).setCell (p := ⟨w.heap.size, 0, none⟩) (.inr (Nat.le_refl _)) _).setCell (p := ⟨w.heap.size, 1, none⟩) (.inr (Nat.le_refl _)) _).setCell (p := ⟨w.heap.size, 2, none⟩) (.inr (Nat.le_refl _)) _
    · have g1 : u % 2 = 1 := by omega
      rw [g1] at hband
      have e1 : unfoldN u = 0 - (u : Int) / 2 - 1 := by unfold unfoldN; rw [if_neg hp]; omega
      go_wp2_with fail
      refine bodyPost_ret (v := itemV 2 (unfoldN u)) ?_ rfl (.inl ⟨unfoldN u, at_ + k, Hres.out, rfl, ?_, ?_⟩)
      · rw [e1]
        simp [results, Try.results79, go_sem, itemV, y0, y1, y2]
      · rw [← Int.natCast_add]
        exact (((((HR2.out.setFar ⟨w.heap.size + 1, 1, none⟩ hgx hAx _).setFar ⟨w.heap.size + 1, 1, none⟩ hgx hAx _).setAt (at_ + k) hak).setFar ⟨w.heap.size, 0, none⟩ hgy hAy _).setFar ⟨w.heap.size, 1, none⟩ hgy hAy _).setFar ⟨w.heap.size, 2, none⟩ hgy hAy _
      · exact (((((((Only.of_fresh (S := fun b => b = g) Hb1.out).trans HO2.out).setCell (p := ⟨w.heap.size + 1, 1, none⟩) (.inr (Nat.le_succ _)) _).setCell (p := ⟨w.heap.size + 1, 1, none⟩) (.inr (Nat.le_succ _)) _).setCell (p := ⟨g, 1, none⟩) (.inl rfl) _).setCell (p := ⟨w.heap.size, 0, none⟩) (.inr (Nat.le_refl _)) _).setCell (p := ⟨w.heap.size, 1, none⟩) (.inr (Nat.le_refl _)) _).setCell (p := ⟨w.heap.size, 2, none⟩) (.inr (Nat.le_refl _)) _
  · have hX2 := HX1.out.only hO2 (by omega)
    have hY2 := HY1.out.only hO2 (by omega)
    have x0 : w2.cell? ⟨w.heap.size + 1, 0, none⟩ = some (.int .i64 2) := hX2.cell 0
    have x1 : w2.cell? ⟨w.heap.size + 1, 1, none⟩ = some (.int .i64 0) := hX2.cell 1
    have x2 : w2.cell? ⟨w.heap.size + 1, 2, none⟩ = some (.slice none 0 0) := hX2.cell 2
    have xf1 := hX2.frozen 1
    have y0 : w2.cell? ⟨w.heap.size, 0, none⟩ = some (.int .i64 0) := hY2.cell 0
    have y1 : w2.cell? ⟨w.heap.size, 1, none⟩ = some (.int .i64 0) := hY2.cell 1
    have y2 : w2.cell? ⟨w.heap.size, 2, none⟩ = some (.slice none 0 0) := hY2.cell 2
    have yf0 := hY2.frozen 0
    have yf1 := hY2.frozen 1
    have yf2 := hY2.frozen 2
    have hxl := hX2.lt
    have hyl := hY2.lt
    have k1 := hR2.c1
    have kf := hR2.blk.frozen 1
    have kl := hR2.blk.lt
    have hgx : w.heap.size + 1 ≠ g := by omega
    have hgy : w.heap.size ≠ g := by omega
    have hle2 := hR2.le
    have HR2 := Lib.hid hR2
    have HO2 := Lib.hid hO2
    clear hX2 hY2 Hn hR2 hO2
    go_wp2_with fail
    have hres : stepI (numberL bs at_) at_ = .error f := by rw [← HR.out, hr]; rfl
    have hAx : bs ≠ [] → ∀ b o, A = some ⟨b, o, none⟩ → b ≠ w.heap.size + 1 := fun hn b o e => by have := H.out.lt hn b o e; omega
    have hAy : bs ≠ [] → ∀ b o, A = some ⟨b, o, none⟩ → b ≠ w.heap.size := fun hn b o e => by have := H.out.lt hn b o e; omega
    refine bodyPost_ret (v := itemV 2 0) ?_ rfl (.inr ⟨f, hres, rfl, ?_, ?_⟩)
    · simp [results, Try.results79, go_sem, itemV, y0, y1, y2]
    · exact ((((HR2.out.setFar ⟨w.heap.size + 1, 1, none⟩ hgx hAx _).setAt at_ hle2).setFar ⟨w.heap.size, 0, none⟩ hgy hAy _).setFar ⟨w.heap.size, 1, none⟩ hgy hAy _).setFar ⟨w.heap.size, 2, none⟩ hgy hAy _
    · exact ((((((Only.of_fresh (S := fun b => b = g) Hb1.out).trans HO2.out).setCell (p := ⟨w.heap.size + 1, 1, none⟩) (.inr (Nat.le_succ _)) _).setCell (p := ⟨g, 1, none⟩) (.inl rfl) _).setCell (p := ⟨w.heap.size, 0, none⟩) (.inr (Nat.le_refl _)) _).setCell (p := ⟨w.heap.size, 1, none⟩) (.inr (Nat.le_refl _)) _).setCell (p := ⟨w.heap.size, 2, none⟩) (.inr (Nat.le_refl _)) _
def itemK (kd : Int) (A : Option Addr) (n c : Nat) : Value := .agg #[.int .i64 kd, .int .i64 0, .slice A n c]
def RReadK (w : World) (kd : Int) (g : Nat) (A : Option Addr) (c : Nat) (bs : List UInt8) (R : Except Int (List UInt8 × Nat)) (e : Ending) (w' : World) : Prop :=
  Only (fun b => b = g) w w' ∧ ((∃ ys a2 A5 c5, R = .ok (ys, a2) ∧ e = .returned (itemK kd A5 ys.length c5) ∧ OwnB w' w.heap.size A5 ys.length c5 ys ∧ RR w' g A c bs a2 0) ∨
    (∃ f a, R = .error f ∧ e = .returned (itemK kd none 0 0) ∧ RR w' g A c bs a f))
set_option maxRecDepth 100000 in
set_option maxHeartbeats 2000000 in
theorem refB_any (g c at_ : Nat) (n : Int) (A : Option Addr) (bs : List UInt8) (w : World) (h : RR w g A c bs at_ 0) (hl : bs.length ≤ 140737488351232) (hc1 : bs.length ≤ c) (hc2 : A = none → bs.length = 0 ∧ c = 0) :
    Calls Try.prog 79 #[.pointer (some ⟨g, 0, none⟩), .int .i64 4, .int .i64 n] w (RReadK w 4 g A c bs (rBytesL bs at_)) := by
  have hgl := h.blk.lt
  have H := Lib.hid h
  have Hc2 := Lib.hid hc2
  clear h hc2
  go_enter Try.func79, Try.ntmps79
  go_wp2_with fail
  obtain ⟨w1, hw1⟩ : ∃ w1, w1 = (w.alloc (.cells #[.int .i64 0, .int .i64 0, .slice none 0 0] 30)).alloc (.cells #[.int .i64 4, .int .i64 0, .slice none 0 0] 30) := ⟨_, rfl⟩
  rw [← hw1]
  have hb1 : Below w.heap.size w w1 := by rw [hw1]; exact ((Below.refl _ _).alloc (Nat.le_refl _) _).alloc (by simp) _
  have hX1 : Blk w1 (w.heap.size + 1) 30 #[.int .i64 4, .int .i64 0, .slice none 0 0] := by
    rw [hw1]
    have h := Blk.new (w.alloc (.cells #[.int .i64 0, .int .i64 0, .slice none 0 0] 30)) 30 #[.int .i64 4, .int .i64 0, .slice none 0 0]
    rw [World.size_alloc] at h
    exact h
  have hY1 : Blk w1 w.heap.size 30 #[.int .i64 0, .int .i64 0, .slice none 0 0] := by rw [hw1]; exact (Blk.new w _ _).alloc _
  have hn := rfNum_any g c at_ A bs w1 (H.out.below hb1) hl
  have HX1 := Lib.hid hX1
  have HY1 := Lib.hid hY1
  have Hn := Lib.hid hn
  have Hb1 := Lib.hid hb1
  clear hn hX1 hY1 hw1 hb1
  refine Hn.out.mono ?_
  rintro e w2 (⟨u, k, hr, rfl, hR2, hO2⟩ | ⟨f, hr, rfl, hR2, hO2⟩)
  · have hlt := rNum_lt hr
    have htk := rfTake_any g c at_ k u A bs w2 hR2 hl (by omega) hc1 Hc2.out
    have hX2 := HX1.out.only hO2 (by omega)
    have hY2 := HY1.out.only hO2 (by omega)
    have HX2 := Lib.hid hX2
    have HY2 := Lib.hid hY2
    have hk0 : (0 : Int) < (k : Int) := by omega
    have Htk := Lib.hid htk
    have Hr := Lib.hid hr
    have hxl2 := hX2.lt
    have HO2 := Lib.hid hO2
    clear hX2 hY2 Hn hR2 hO2 htk hr HX1 HY1
    go_wp2_with fail
    refine Htk.out.mono ?_
    rintro e w3 ⟨hO3, ⟨hcut, rfl, hR3⟩ | ⟨hfit, A5, c5, rfl, hown5, hR3⟩⟩
    · have hR : rBytesL bs at_ = .error 11 := by unfold rBytesL; rw [Hr.out]; exact if_pos hcut
      have hX3 := HX2.out.only hO3 (by omega)
      have hY3 := HY2.out.only hO3 (by omega)
      have x0 : w3.cell? ⟨w.heap.size + 1, 0, none⟩ = some (.int .i64 4) := hX3.cell 0
      have x1 : w3.cell? ⟨w.heap.size + 1, 1, none⟩ = some (.int .i64 0) := hX3.cell 1
      have x2 : w3.cell? ⟨w.heap.size + 1, 2, none⟩ = some (.slice none 0 0) := hX3.cell 2
      have xf2 := hX3.frozen 2
      have y0 : w3.cell? ⟨w.heap.size, 0, none⟩ = some (.int .i64 0) := hY3.cell 0
      have y1 : w3.cell? ⟨w.heap.size, 1, none⟩ = some (.int .i64 0) := hY3.cell 1
      have y2 : w3.cell? ⟨w.heap.size, 2, none⟩ = some (.slice none 0 0) := hY3.cell 2
      have yf0 := hY3.frozen 0
      have yf1 := hY3.frozen 1
      have yf2 := hY3.frozen 2
      have hxl := hX3.lt
      have hyl := hY3.lt
      have hgx : w.heap.size + 1 ≠ g := by omega
      have hgy : w.heap.size ≠ g := by omega
      have HR3 := Lib.hid hR3
      have HO3 := Lib.hid (HO2.out.trans hO3)
      have hz2 := HO2.out.size
      have HR := Lib.hid hR
      clear hX3 hY3 hO3 hR3 hR Htk HX2 HY2
      go_wp2_with fail
      have hAx : bs ≠ [] → ∀ b o, A = some ⟨b, o, none⟩ → b ≠ w.heap.size + 1 := fun hn b o e => by have := H.out.lt hn b o e; omega
      have hAy : bs ≠ [] → ∀ b o, A = some ⟨b, o, none⟩ → b ≠ w.heap.size := fun hn b o e => by have := H.out.lt hn b o e; omega
      refine bodyPost_ret (v := itemK 4 none 0 0) ?_ rfl ⟨?_, .inr ⟨11, at_, HR.out, rfl, ?_⟩⟩
      · simp [results, Try.results79, go_sem, itemK, y0, y1, y2]
      · exact ((((((Only.of_fresh (S := fun b => b = g) Hb1.out).trans HO3.out).setCell (p := ⟨w.heap.size + 1, 2, none⟩) (.inr (Nat.le_succ _)) _).setCell (p := ⟨w.heap.size, 0, none⟩) (.inr (Nat.le_refl _)) _).setCell (p := ⟨w.heap.size, 1, none⟩) (.inr (Nat.le_refl _)) _).setCell (p := ⟨w.heap.size, 2, none⟩) (.inr (Nat.le_refl _)) _)
      · exact (((HR3.out.setFar ⟨w.heap.size + 1, 2, none⟩ hgx hAx _).setFar ⟨w.heap.size, 0, none⟩ hgy hAy _).setFar ⟨w.heap.size, 1, none⟩ hgy hAy _).setFar ⟨w.heap.size, 2, none⟩ hgy hAy _
    · have hR : rBytesL bs at_ = .ok ((bs.drop (at_ + k)).take u, at_ + k + u) := by unfold rBytesL; rw [Hr.out]; exact if_neg (by omega)
      obtain ⟨ys, hys⟩ : ∃ ys, ys = (bs.drop (at_ + k)).take u := ⟨_, rfl⟩
      have hyl' : ys.length = u := by rw [hys, List.length_take, List.length_drop]; omega
      rw [← hys] at hR hown5
      have Hyl := Lib.hid hyl'
      have Hown5 := Lib.hid hown5
      clear hys hyl' hown5
      have hX3 := HX2.out.only hO3 (by omega)
      have hY3 := HY2.out.only hO3 (by omega)
      have x0 : w3.cell? ⟨w.heap.size + 1, 0, none⟩ = some (.int .i64 4) := hX3.cell 0
      have x1 : w3.cell? ⟨w.heap.size + 1, 1, none⟩ = some (.int .i64 0) := hX3.cell 1
      have x2 : w3.cell? ⟨w.heap.size + 1, 2, none⟩ = some (.slice none 0 0) := hX3.cell 2
      have xf2 := hX3.frozen 2
      have y0 : w3.cell? ⟨w.heap.size, 0, none⟩ = some (.int .i64 0) := hY3.cell 0
      have y1 : w3.cell? ⟨w.heap.size, 1, none⟩ = some (.int .i64 0) := hY3.cell 1
      have y2 : w3.cell? ⟨w.heap.size, 2, none⟩ = some (.slice none 0 0) := hY3.cell 2
      have yf0 := hY3.frozen 0
      have yf1 := hY3.frozen 1
      have yf2 := hY3.frozen 2
      have hxl := hX3.lt
      have hyl := hY3.lt
      have hgx : w.heap.size + 1 ≠ g := by omega
      have hgy : w.heap.size ≠ g := by omega
      have HR3 := Lib.hid hR3
      have HO3 := Lib.hid (HO2.out.trans hO3)
      have hz2 := HO2.out.size
      have HR := Lib.hid hR
      clear hX3 hY3 hO3 hR3 hR Htk HX2 HY2
      go_wp2_with fail
      have hAx : bs ≠ [] → ∀ b o, A = some ⟨b, o, none⟩ → b ≠ w.heap.size + 1 := fun hn b o e => by have := H.out.lt hn b o e; omega
      have hAy : bs ≠ [] → ∀ b o, A = some ⟨b, o, none⟩ → b ≠ w.heap.size := fun hn b o e => by have := H.out.lt hn b o e; omega
      have hw12 := Hb1.out.size
      have hset : Only (fun b => b = w.heap.size + 1 ∨ b = w.heap.size) w3 ((((w3.setCell ⟨w.heap.size + 1, 2, none⟩ (.slice A5 u c5)).setCell ⟨w.heap.size, 0, none⟩ (.int .i64 4)).setCell ⟨w.heap.size, 1, none⟩ (.int .i64 0)).setCell ⟨w.heap.size, 2, none⟩ (.slice A5 u c5)) := ((((Only.refl _ w3).setCell (p := ⟨w.heap.size + 1, 2, none⟩) (.inl (.inl rfl)) _).setCell (p := ⟨w.heap.size, 0, none⟩) (.inl (.inr rfl)) _).setCell (p := ⟨w.heap.size, 1, none⟩) (.inl (.inr rfl)) _).setCell (p := ⟨w.heap.size, 2, none⟩) (.inl (.inr rfl)) _
      refine bodyPost_ret (v := itemK 4 A5 u c5) ?_ rfl ⟨?_, .inl ⟨ys, at_ + k + u, A5, c5, HR.out, by rw [Hyl.out], ?_, ?_⟩⟩
      · simp [results, Try.results79, go_sem, itemK, y0, y1, y2]
      · exact ((((((Only.of_fresh (S := fun b => b = g) Hb1.out).trans HO3.out).setCell (p := ⟨w.heap.size + 1, 2, none⟩) (.inr (Nat.le_succ _)) _).setCell (p := ⟨w.heap.size, 0, none⟩) (.inr (Nat.le_refl _)) _).setCell (p := ⟨w.heap.size, 1, none⟩) (.inr (Nat.le_refl _)) _).setCell (p := ⟨w.heap.size, 2, none⟩) (.inr (Nat.le_refl _)) _)
      · rw [Hyl.out]
        exact (Own.only Hown5.out hset (fun b o e h => by have := (Own.lt Hown5.out b o e).1; omega)).mono (by omega)
      · exact (((HR3.out.setFar ⟨w.heap.size + 1, 2, none⟩ hgx hAx _).setFar ⟨w.heap.size, 0, none⟩ hgy hAy _).setFar ⟨w.heap.size, 1, none⟩ hgy hAy _).setFar ⟨w.heap.size, 2, none⟩ hgy hAy _
  · have hR : rBytesL bs at_ = .error f := by unfold rBytesL; rw [hr]
    have hX2 := HX1.out.only hO2 (by omega)
    have hY2 := HY1.out.only hO2 (by omega)
    have x0 : w2.cell? ⟨w.heap.size + 1, 0, none⟩ = some (.int .i64 4) := hX2.cell 0
    have x1 : w2.cell? ⟨w.heap.size + 1, 1, none⟩ = some (.int .i64 0) := hX2.cell 1
    have x2 : w2.cell? ⟨w.heap.size + 1, 2, none⟩ = some (.slice none 0 0) := hX2.cell 2
    have y0 : w2.cell? ⟨w.heap.size, 0, none⟩ = some (.int .i64 0) := hY2.cell 0
    have y1 : w2.cell? ⟨w.heap.size, 1, none⟩ = some (.int .i64 0) := hY2.cell 1
    have y2 : w2.cell? ⟨w.heap.size, 2, none⟩ = some (.slice none 0 0) := hY2.cell 2
    have yf0 := hY2.frozen 0
    have yf1 := hY2.frozen 1
    have yf2 := hY2.frozen 2
    have hxl := hX2.lt
    have hyl := hY2.lt
    have hgy : w.heap.size ≠ g := by omega
    have HR2 := Lib.hid hR2
    have HO2 := Lib.hid hO2
    have HR := Lib.hid hR
    clear hX2 hY2 Hn hR2 hO2 hR hr HX1 HY1
    go_wp2_with fail
    have hAy : bs ≠ [] → ∀ b o, A = some ⟨b, o, none⟩ → b ≠ w.heap.size := fun hn b o e => by have := H.out.lt hn b o e; omega
    refine bodyPost_ret (v := itemK 4 none 0 0) ?_ rfl ⟨?_, .inr ⟨f, at_, HR.out, rfl, ?_⟩⟩
    · simp [results, Try.results79, go_sem, itemK, y0, y1, y2]
    · exact (((((Only.of_fresh (S := fun b => b = g) Hb1.out).trans HO2.out).setCell (p := ⟨w.heap.size, 0, none⟩) (.inr (Nat.le_refl _)) _).setCell (p := ⟨w.heap.size, 1, none⟩) (.inr (Nat.le_refl _)) _).setCell (p := ⟨w.heap.size, 2, none⟩) (.inr (Nat.le_refl _)) _)
    · exact ((HR2.out.setFar ⟨w.heap.size, 0, none⟩ hgy hAy _).setFar ⟨w.heap.size, 1, none⟩ hgy hAy _).setFar ⟨w.heap.size, 2, none⟩ hgy hAy _
set_option maxRecDepth 100000 in
set_option maxHeartbeats 2000000 in
theorem refT_any (g c at_ : Nat) (n : Int) (A : Option Addr) (bs : List UInt8) (w : World) (h : RR w g A c bs at_ 0) (hl : bs.length ≤ 140737488351232) (hc1 : bs.length ≤ c) (hc2 : A = none → bs.length = 0 ∧ c = 0) :
    Calls Try.prog 79 #[.pointer (some ⟨g, 0, none⟩), .int .i64 5, .int .i64 n] w (RReadK w 5 g A c bs (rBytesL bs at_)) := by
  have hgl := h.blk.lt
  have H := Lib.hid h
  have Hc2 := Lib.hid hc2
  clear h hc2
  go_enter Try.func79, Try.ntmps79
  go_wp2_with fail
  obtain ⟨w1, hw1⟩ : ∃ w1, w1 = (w.alloc (.cells #[.int .i64 0, .int .i64 0, .slice none 0 0] 30)).alloc (.cells #[.int .i64 5, .int .i64 0, .slice none 0 0] 30) := ⟨_, rfl⟩
  rw [← hw1]
  have hb1 : Below w.heap.size w w1 := by rw [hw1]; exact ((Below.refl _ _).alloc (Nat.le_refl _) _).alloc (by simp) _
  have hX1 : Blk w1 (w.heap.size + 1) 30 #[.int .i64 5, .int .i64 0, .slice none 0 0] := by
    rw [hw1]
    have h := Blk.new (w.alloc (.cells #[.int .i64 0, .int .i64 0, .slice none 0 0] 30)) 30 #[.int .i64 5, .int .i64 0, .slice none 0 0]
    rw [World.size_alloc] at h
    exact h
  have hY1 : Blk w1 w.heap.size 30 #[.int .i64 0, .int .i64 0, .slice none 0 0] := by rw [hw1]; exact (Blk.new w _ _).alloc _
  have hn := rfNum_any g c at_ A bs w1 (H.out.below hb1) hl
  have HX1 := Lib.hid hX1
  have HY1 := Lib.hid hY1
  have Hn := Lib.hid hn
  have Hb1 := Lib.hid hb1
  clear hn hX1 hY1 hw1 hb1
  refine Hn.out.mono ?_
  rintro e w2 (⟨u, k, hr, rfl, hR2, hO2⟩ | ⟨f, hr, rfl, hR2, hO2⟩)
  · have hlt := rNum_lt hr
    have htk := rfTake_any g c at_ k u A bs w2 hR2 hl (by omega) hc1 Hc2.out
    have hX2 := HX1.out.only hO2 (by omega)
    have hY2 := HY1.out.only hO2 (by omega)
    have HX2 := Lib.hid hX2
    have HY2 := Lib.hid hY2
    have hk0 : (0 : Int) < (k : Int) := by omega
    have Htk := Lib.hid htk
    have Hr := Lib.hid hr
    have hxl2 := hX2.lt
    have HO2 := Lib.hid hO2
    clear hX2 hY2 Hn hR2 hO2 htk hr HX1 HY1
    go_wp2_with fail
    refine Htk.out.mono ?_
    rintro e w3 ⟨hO3, ⟨hcut, rfl, hR3⟩ | ⟨hfit, A5, c5, rfl, hown5, hR3⟩⟩
    · have hR : rBytesL bs at_ = .error 11 := by unfold rBytesL; rw [Hr.out]; exact if_pos hcut
      have hX3 := HX2.out.only hO3 (by omega)
      have hY3 := HY2.out.only hO3 (by omega)
      have x0 : w3.cell? ⟨w.heap.size + 1, 0, none⟩ = some (.int .i64 5) := hX3.cell 0
      have x1 : w3.cell? ⟨w.heap.size + 1, 1, none⟩ = some (.int .i64 0) := hX3.cell 1
      have x2 : w3.cell? ⟨w.heap.size + 1, 2, none⟩ = some (.slice none 0 0) := hX3.cell 2
      have xf2 := hX3.frozen 2
      have y0 : w3.cell? ⟨w.heap.size, 0, none⟩ = some (.int .i64 0) := hY3.cell 0
      have y1 : w3.cell? ⟨w.heap.size, 1, none⟩ = some (.int .i64 0) := hY3.cell 1
      have y2 : w3.cell? ⟨w.heap.size, 2, none⟩ = some (.slice none 0 0) := hY3.cell 2
      have yf0 := hY3.frozen 0
      have yf1 := hY3.frozen 1
      have yf2 := hY3.frozen 2
      have hxl := hX3.lt
      have hyl := hY3.lt
      have hgx : w.heap.size + 1 ≠ g := by omega
      have hgy : w.heap.size ≠ g := by omega
      have HR3 := Lib.hid hR3
      have HO3 := Lib.hid (HO2.out.trans hO3)
      have hz2 := HO2.out.size
      have HR := Lib.hid hR
      clear hX3 hY3 hO3 hR3 hR Htk HX2 HY2
      go_wp2_with fail
      have hAx : bs ≠ [] → ∀ b o, A = some ⟨b, o, none⟩ → b ≠ w.heap.size + 1 := fun hn b o e => by have := H.out.lt hn b o e; omega
      have hAy : bs ≠ [] → ∀ b o, A = some ⟨b, o, none⟩ → b ≠ w.heap.size := fun hn b o e => by have := H.out.lt hn b o e; omega
      refine bodyPost_ret (v := itemK 5 none 0 0) ?_ rfl ⟨?_, .inr ⟨11, at_, HR.out, rfl, ?_⟩⟩
      · simp [results, Try.results79, go_sem, itemK, y0, y1, y2]
      · exact ((((((Only.of_fresh (S := fun b => b = g) Hb1.out).trans HO3.out).setCell (p := ⟨w.heap.size + 1, 2, none⟩) (.inr (Nat.le_succ _)) _).setCell (p := ⟨w.heap.size, 0, none⟩) (.inr (Nat.le_refl _)) _).setCell (p := ⟨w.heap.size, 1, none⟩) (.inr (Nat.le_refl _)) _).setCell (p := ⟨w.heap.size, 2, none⟩) (.inr (Nat.le_refl _)) _)
      · exact (((HR3.out.setFar ⟨w.heap.size + 1, 2, none⟩ hgx hAx _).setFar ⟨w.heap.size, 0, none⟩ hgy hAy _).setFar ⟨w.heap.size, 1, none⟩ hgy hAy _).setFar ⟨w.heap.size, 2, none⟩ hgy hAy _
    · have hR : rBytesL bs at_ = .ok ((bs.drop (at_ + k)).take u, at_ + k + u) := by unfold rBytesL; rw [Hr.out]; exact if_neg (by omega)
      obtain ⟨ys, hys⟩ : ∃ ys, ys = (bs.drop (at_ + k)).take u := ⟨_, rfl⟩
      have hyl' : ys.length = u := by rw [hys, List.length_take, List.length_drop]; omega
      rw [← hys] at hR hown5
      have Hyl := Lib.hid hyl'
      have Hown5 := Lib.hid hown5
      clear hys hyl' hown5
      have hX3 := HX2.out.only hO3 (by omega)
      have hY3 := HY2.out.only hO3 (by omega)
      have x0 : w3.cell? ⟨w.heap.size + 1, 0, none⟩ = some (.int .i64 5) := hX3.cell 0
      have x1 : w3.cell? ⟨w.heap.size + 1, 1, none⟩ = some (.int .i64 0) := hX3.cell 1
      have x2 : w3.cell? ⟨w.heap.size + 1, 2, none⟩ = some (.slice none 0 0) := hX3.cell 2
      have xf2 := hX3.frozen 2
      have y0 : w3.cell? ⟨w.heap.size, 0, none⟩ = some (.int .i64 0) := hY3.cell 0
      have y1 : w3.cell? ⟨w.heap.size, 1, none⟩ = some (.int .i64 0) := hY3.cell 1
      have y2 : w3.cell? ⟨w.heap.size, 2, none⟩ = some (.slice none 0 0) := hY3.cell 2
      have yf0 := hY3.frozen 0
      have yf1 := hY3.frozen 1
      have yf2 := hY3.frozen 2
      have hxl := hX3.lt
      have hyl := hY3.lt
      have hgx : w.heap.size + 1 ≠ g := by omega
      have hgy : w.heap.size ≠ g := by omega
      have HR3 := Lib.hid hR3
      have HO3 := Lib.hid (HO2.out.trans hO3)
      have hz2 := HO2.out.size
      have HR := Lib.hid hR
      clear hX3 hY3 hO3 hR3 hR Htk HX2 HY2
      go_wp2_with fail
      have hAx : bs ≠ [] → ∀ b o, A = some ⟨b, o, none⟩ → b ≠ w.heap.size + 1 := fun hn b o e => by have := H.out.lt hn b o e; omega
      have hAy : bs ≠ [] → ∀ b o, A = some ⟨b, o, none⟩ → b ≠ w.heap.size := fun hn b o e => by have := H.out.lt hn b o e; omega
      have hw12 := Hb1.out.size
      have hset : Only (fun b => b = w.heap.size + 1 ∨ b = w.heap.size) w3 ((((w3.setCell ⟨w.heap.size + 1, 2, none⟩ (.slice A5 u c5)).setCell ⟨w.heap.size, 0, none⟩ (.int .i64 5)).setCell ⟨w.heap.size, 1, none⟩ (.int .i64 0)).setCell ⟨w.heap.size, 2, none⟩ (.slice A5 u c5)) := ((((Only.refl _ w3).setCell (p := ⟨w.heap.size + 1, 2, none⟩) (.inl (.inl rfl)) _).setCell (p := ⟨w.heap.size, 0, none⟩) (.inl (.inr rfl)) _).setCell (p := ⟨w.heap.size, 1, none⟩) (.inl (.inr rfl)) _).setCell (p := ⟨w.heap.size, 2, none⟩) (.inl (.inr rfl)) _
      refine bodyPost_ret (v := itemK 5 A5 u c5) ?_ rfl ⟨?_, .inl ⟨ys, at_ + k + u, A5, c5, HR.out, by rw [Hyl.out], ?_, ?_⟩⟩
      · simp [results, Try.results79, go_sem, itemK, y0, y1, y2]
      · exact ((((((Only.of_fresh (S := fun b => b = g) Hb1.out).trans HO3.out).setCell (p := ⟨w.heap.size + 1, 2, none⟩) (.inr (Nat.le_succ _)) _).setCell (p := ⟨w.heap.size, 0, none⟩) (.inr (Nat.le_refl _)) _).setCell (p := ⟨w.heap.size, 1, none⟩) (.inr (Nat.le_refl _)) _).setCell (p := ⟨w.heap.size, 2, none⟩) (.inr (Nat.le_refl _)) _)
      · rw [Hyl.out]
        exact (Own.only Hown5.out hset (fun b o e h => by have := (Own.lt Hown5.out b o e).1; omega)).mono (by omega)
      · exact (((HR3.out.setFar ⟨w.heap.size + 1, 2, none⟩ hgx hAx _).setFar ⟨w.heap.size, 0, none⟩ hgy hAy _).setFar ⟨w.heap.size, 1, none⟩ hgy hAy _).setFar ⟨w.heap.size, 2, none⟩ hgy hAy _
  · have hR : rBytesL bs at_ = .error f := by unfold rBytesL; rw [hr]
    have hX2 := HX1.out.only hO2 (by omega)
    have hY2 := HY1.out.only hO2 (by omega)
    have x0 : w2.cell? ⟨w.heap.size + 1, 0, none⟩ = some (.int .i64 5) := hX2.cell 0
    have x1 : w2.cell? ⟨w.heap.size + 1, 1, none⟩ = some (.int .i64 0) := hX2.cell 1
    have x2 : w2.cell? ⟨w.heap.size + 1, 2, none⟩ = some (.slice none 0 0) := hX2.cell 2
    have y0 : w2.cell? ⟨w.heap.size, 0, none⟩ = some (.int .i64 0) := hY2.cell 0
    have y1 : w2.cell? ⟨w.heap.size, 1, none⟩ = some (.int .i64 0) := hY2.cell 1
    have y2 : w2.cell? ⟨w.heap.size, 2, none⟩ = some (.slice none 0 0) := hY2.cell 2
    have yf0 := hY2.frozen 0
    have yf1 := hY2.frozen 1
    have yf2 := hY2.frozen 2
    have hxl := hX2.lt
    have hyl := hY2.lt
    have hgy : w.heap.size ≠ g := by omega
    have HR2 := Lib.hid hR2
    have HO2 := Lib.hid hO2
    have HR := Lib.hid hR
    clear hX2 hY2 Hn hR2 hO2 hR hr HX1 HY1
    go_wp2_with fail
    have hAy : bs ≠ [] → ∀ b o, A = some ⟨b, o, none⟩ → b ≠ w.heap.size := fun hn b o e => by have := H.out.lt hn b o e; omega
    refine bodyPost_ret (v := itemK 5 none 0 0) ?_ rfl ⟨?_, .inr ⟨f, at_, HR.out, rfl, ?_⟩⟩
    · simp [results, Try.results79, go_sem, itemK, y0, y1, y2]
    · exact (((((Only.of_fresh (S := fun b => b = g) Hb1.out).trans HO2.out).setCell (p := ⟨w.heap.size, 0, none⟩) (.inr (Nat.le_refl _)) _).setCell (p := ⟨w.heap.size, 1, none⟩) (.inr (Nat.le_refl _)) _).setCell (p := ⟨w.heap.size, 2, none⟩) (.inr (Nat.le_refl _)) _)
    · exact ((HR2.out.setFar ⟨w.heap.size, 0, none⟩ hgy hAy _).setFar ⟨w.heap.size, 1, none⟩ hgy hAy _).setFar ⟨w.heap.size, 2, none⟩ hgy hAy _
set_option maxRecDepth 100000 in
set_option maxHeartbeats 2000000 in
theorem refW_any (g c at_ : Nat) (n : Int) (A : Option Addr) (bs : List UInt8) (w : World) (h : RR w g A c bs at_ 0) (hl : bs.length ≤ 140737488351232) (hc1 : bs.length ≤ c) (hc2 : A = none → bs.length = 0 ∧ c = 0) :
    Calls Try.prog 79 #[.pointer (some ⟨g, 0, none⟩), .int .i64 6, .int .i64 n] w (RReadK w 6 g A c bs ((rRawL bs at_ n).map fun x => (x, at_ + x.length))) := by
  have hgl := h.blk.lt
  have kf2 := h.blk.frozen 2
  have H := Lib.hid h
  have Hc2 := Lib.hid hc2
  clear h hc2
  by_cases hn : n < 0
  · have HR := Lib.hid (show (rRawL bs at_ n).map (fun x => (x, at_ + x.length)) = .error 1 by unfold rRawL; rw [if_pos hn]; rfl)
    obtain ⟨w1, hw1⟩ : ∃ w1, w1 = (w.alloc (.cells #[.int .i64 0, .int .i64 0, .slice none 0 0] 30)).alloc (.cells #[.int .i64 6, .int .i64 0, .slice none 0 0] 30) := ⟨_, rfl⟩
    have hb1 : Below w.heap.size w w1 := by rw [hw1]; exact ((Below.refl _ _).alloc (Nat.le_refl _) _).alloc (by simp) _
    have hX1 : Blk w1 (w.heap.size + 1) 30 #[.int .i64 6, .int .i64 0, .slice none 0 0] := by
      rw [hw1]
      have h := Blk.new (w.alloc (.cells #[.int .i64 0, .int .i64 0, .slice none 0 0] 30)) 30 #[.int .i64 6, .int .i64 0, .slice none 0 0]
      rw [World.size_alloc] at h
      exact h
    have hY1 : Blk w1 w.heap.size 30 #[.int .i64 0, .int .i64 0, .slice none 0 0] := by rw [hw1]; exact (Blk.new w _ _).alloc _
    have HR1 := Lib.hid (H.out.below hb1)
    have Hb1 := Lib.hid hb1
    have k2 := (H.out.below hb1).c2
    have kf := (H.out.below hb1).blk.frozen 2
    have kl := (H.out.below hb1).blk.lt
    have x0 : w1.cell? ⟨w.heap.size + 1, 0, none⟩ = some (.int .i64 6) := hX1.cell 0
    have x1 : w1.cell? ⟨w.heap.size + 1, 1, none⟩ = some (.int .i64 0) := hX1.cell 1
    have x2 : w1.cell? ⟨w.heap.size + 1, 2, none⟩ = some (.slice none 0 0) := hX1.cell 2
    have xf1 := hX1.frozen 1
    have xf2 := hX1.frozen 2
    have y0 : w1.cell? ⟨w.heap.size, 0, none⟩ = some (.int .i64 0) := hY1.cell 0
    have yf0 := hY1.frozen 0
    have y1 : w1.cell? ⟨w.heap.size, 1, none⟩ = some (.int .i64 0) := hY1.cell 1
    have yf1 := hY1.frozen 1
    have y2 : w1.cell? ⟨w.heap.size, 2, none⟩ = some (.slice none 0 0) := hY1.cell 2
    have yf2 := hY1.frozen 2
    have hxl := hX1.lt
    have hyl := hY1.lt
    have hgx : w.heap.size + 1 ≠ g := by omega
    have hgy : w.heap.size ≠ g := by omega
    have Hw1 := Lib.hid hw1
    clear hX1 hY1 hw1 hb1
    go_enter Try.func79, Try.ntmps79
    go_upto_region 2 with (fail)
    rw [← Hw1.out]
    clear Hw1
    go_wp2_with fail
    have hAx : bs ≠ [] → ∀ b o, A = some ⟨b, o, none⟩ → b ≠ w.heap.size + 1 := fun hn b o e => by have := H.out.lt hn b o e; omega
    have hAy : bs ≠ [] → ∀ b o, A = some ⟨b, o, none⟩ → b ≠ w.heap.size := fun hn b o e => by have := H.out.lt hn b o e; omega
    refine bodyPost_ret (v := itemK 6 none 0 0) ?_ rfl ⟨?_, .inr ⟨1, at_, HR.out, rfl, ?_⟩⟩
    · simp [results, Try.results79, go_sem, itemK, y0, y1, y2]
    · exact (((((Only.of_fresh (S := fun b => b = g) Hb1.out).setCell (p := ⟨g, 2, none⟩) (.inl rfl) _).setCell (p := ⟨w.heap.size, 0, none⟩) (.inr (Nat.le_refl _)) _).setCell (p := ⟨w.heap.size, 1, none⟩) (.inr (Nat.le_refl _)) _).setCell (p := ⟨w.heap.size, 2, none⟩) (.inr (Nat.le_refl _)) _)
    · exact ((((HR1.out.setF 1).setFar ⟨w.heap.size, 0, none⟩ hgy hAy _).setFar ⟨w.heap.size, 1, none⟩ hgy hAy _).setFar ⟨w.heap.size, 2, none⟩ hgy hAy _)
  · obtain ⟨k, rfl⟩ : ∃ k : Nat, n = (k : Int) := ⟨n.toNat, by omega⟩
    have hn0 : ¬ (k : Int) < 0 := hn
    obtain ⟨w1, hw1⟩ : ∃ w1, w1 = (w.alloc (.cells #[.int .i64 0, .int .i64 0, .slice none 0 0] 30)).alloc (.cells #[.int .i64 6, .int .i64 0, .slice none 0 0] 30) := ⟨_, rfl⟩
    have hb1 : Below w.heap.size w w1 := by rw [hw1]; exact ((Below.refl _ _).alloc (Nat.le_refl _) _).alloc (by simp) _
    have hX1 : Blk w1 (w.heap.size + 1) 30 #[.int .i64 6, .int .i64 0, .slice none 0 0] := by
      rw [hw1]
      have h := Blk.new (w.alloc (.cells #[.int .i64 0, .int .i64 0, .slice none 0 0] 30)) 30 #[.int .i64 6, .int .i64 0, .slice none 0 0]
      rw [World.size_alloc] at h
      exact h
    have hY1 : Blk w1 w.heap.size 30 #[.int .i64 0, .int .i64 0, .slice none 0 0] := by rw [hw1]; exact (Blk.new w _ _).alloc _
    have htk := rfTake_any g c at_ 0 k A bs w1 (H.out.below hb1) hl (by have := H.out.le; omega) hc1 Hc2.out
    rw [show ((0 : Nat) : Int) = 0 from rfl] at htk
    simp only [Nat.add_zero] at htk
    have Htk := Lib.hid htk
    have Hb1 := Lib.hid hb1
    have hz2 : w.heap.size + 1 < w1.heap.size := hX1.lt
    have HX1 := Lib.hid hX1
    have HY1 := Lib.hid hY1
    have Hw1 := Lib.hid hw1
    clear htk hX1 hY1 hw1 hb1
    go_enter Try.func79, Try.ntmps79
    go_upto_region 2 with (fail)
    rw [← Hw1.out]
    clear Hw1
    go_wp2_with fail
    refine Htk.out.mono ?_
    rintro e w3 ⟨hO3, ⟨hcut, rfl, hR3⟩ | ⟨hfit, A5, c5, rfl, hown5, hR3⟩⟩
    · have hR : (rRawL bs at_ (k : Int)).map (fun x => (x, at_ + x.length)) = .error 11 := by unfold rRawL; rw [if_neg (by omega), if_pos (by omega)]; rfl
      have hX3 := HX1.out.only hO3 (by omega)
      have hY3 := HY1.out.only hO3 (by omega)
      have x0 : w3.cell? ⟨w.heap.size + 1, 0, none⟩ = some (.int .i64 6) := hX3.cell 0
      have x1 : w3.cell? ⟨w.heap.size + 1, 1, none⟩ = some (.int .i64 0) := hX3.cell 1
      have x2 : w3.cell? ⟨w.heap.size + 1, 2, none⟩ = some (.slice none 0 0) := hX3.cell 2
      have xf1 := hX3.frozen 1
      have xf2 := hX3.frozen 2
      have y0 : w3.cell? ⟨w.heap.size, 0, none⟩ = some (.int .i64 0) := hY3.cell 0
      have yf0 := hY3.frozen 0
      have y1 : w3.cell? ⟨w.heap.size, 1, none⟩ = some (.int .i64 0) := hY3.cell 1
      have yf1 := hY3.frozen 1
      have y2 : w3.cell? ⟨w.heap.size, 2, none⟩ = some (.slice none 0 0) := hY3.cell 2
      have yf2 := hY3.frozen 2
      have hxl := hX3.lt
      have hyl := hY3.lt
      have hgx : w.heap.size + 1 ≠ g := by omega
      have hgy : w.heap.size ≠ g := by omega
      have HR3 := Lib.hid hR3
      have HO3 := Lib.hid hO3
      have hz1 := Hb1.out.size
      have HR := Lib.hid hR
      clear hX3 hY3 hO3 hR3 hR Htk HX1 HY1
      go_wp2_with fail
      have hAx : bs ≠ [] → ∀ b o, A = some ⟨b, o, none⟩ → b ≠ w.heap.size + 1 := fun hn b o e => by have := H.out.lt hn b o e; omega
      have hAy : bs ≠ [] → ∀ b o, A = some ⟨b, o, none⟩ → b ≠ w.heap.size := fun hn b o e => by have := H.out.lt hn b o e; omega
      refine bodyPost_ret (v := itemK 6 none 0 0) ?_ rfl ⟨?_, .inr ⟨11, at_, HR.out, rfl, ?_⟩⟩
      · simp [results, Try.results79, go_sem, itemK, y0, y1, y2]
      · exact ((((((Only.of_fresh (S := fun b => b = g) Hb1.out).trans HO3.out).setCell (p := ⟨w.heap.size + 1, 2, none⟩) (.inr (Nat.le_succ _)) _).setCell (p := ⟨w.heap.size, 0, none⟩) (.inr (Nat.le_refl _)) _).setCell (p := ⟨w.heap.size, 1, none⟩) (.inr (Nat.le_refl _)) _).setCell (p := ⟨w.heap.size, 2, none⟩) (.inr (Nat.le_refl _)) _)
      · exact ((((HR3.out.setFar ⟨w.heap.size + 1, 2, none⟩ hgx hAx _).setFar ⟨w.heap.size, 0, none⟩ hgy hAy _).setFar ⟨w.heap.size, 1, none⟩ hgy hAy _).setFar ⟨w.heap.size, 2, none⟩ hgy hAy _)
    · obtain ⟨ys, hys⟩ : ∃ ys, ys = (bs.drop at_).take k := ⟨_, rfl⟩
      have hyl' : ys.length = k := by rw [hys, List.length_take, List.length_drop]; omega
      have hR : (rRawL bs at_ (k : Int)).map (fun x => (x, at_ + x.length)) = .ok (ys, at_ + k) := by
        unfold rRawL
        rw [if_neg (by omega), if_neg (by omega), Int.toNat_natCast, ← hys]
        show Except.ok (ys, at_ + ys.length) = _
        rw [hyl']
      rw [← hys] at hown5
      have Hyl := Lib.hid hyl'
      have Hown5 := Lib.hid hown5
      clear hys hyl' hown5
      have hX3 := HX1.out.only hO3 (by omega)
      have hY3 := HY1.out.only hO3 (by omega)
      have x0 : w3.cell? ⟨w.heap.size + 1, 0, none⟩ = some (.int .i64 6) := hX3.cell 0
      have x1 : w3.cell? ⟨w.heap.size + 1, 1, none⟩ = some (.int .i64 0) := hX3.cell 1
      have x2 : w3.cell? ⟨w.heap.size + 1, 2, none⟩ = some (.slice none 0 0) := hX3.cell 2
      have xf1 := hX3.frozen 1
      have xf2 := hX3.frozen 2
      have y0 : w3.cell? ⟨w.heap.size, 0, none⟩ = some (.int .i64 0) := hY3.cell 0
      have yf0 := hY3.frozen 0
      have y1 : w3.cell? ⟨w.heap.size, 1, none⟩ = some (.int .i64 0) := hY3.cell 1
      have yf1 := hY3.frozen 1
      have y2 : w3.cell? ⟨w.heap.size, 2, none⟩ = some (.slice none 0 0) := hY3.cell 2
      have yf2 := hY3.frozen 2
      have hxl := hX3.lt
      have hyl := hY3.lt
      have hgx : w.heap.size + 1 ≠ g := by omega
      have hgy : w.heap.size ≠ g := by omega
      have HR3 := Lib.hid hR3
      have HO3 := Lib.hid hO3
      have hz1 := Hb1.out.size
      have HR := Lib.hid hR
      clear hX3 hY3 hO3 hR3 hR Htk HX1 HY1
      go_wp2_with fail
      have hAx : bs ≠ [] → ∀ b o, A = some ⟨b, o, none⟩ → b ≠ w.heap.size + 1 := fun hn b o e => by have := H.out.lt hn b o e; omega
      have hAy : bs ≠ [] → ∀ b o, A = some ⟨b, o, none⟩ → b ≠ w.heap.size := fun hn b o e => by have := H.out.lt hn b o e; omega
      have hset : Only (fun b => b = w.heap.size + 1 ∨ b = w.heap.size) w3 ((((w3.setCell ⟨w.heap.size + 1, 2, none⟩ (.slice A5 k c5)).setCell ⟨w.heap.size, 0, none⟩ (.int .i64 6)).setCell ⟨w.heap.size, 1, none⟩ (.int .i64 0)).setCell ⟨w.heap.size, 2, none⟩ (.slice A5 k c5)) := ((((Only.refl _ w3).setCell (p := ⟨w.heap.size + 1, 2, none⟩) (.inl (.inl rfl)) _).setCell (p := ⟨w.heap.size, 0, none⟩) (.inl (.inr rfl)) _).setCell (p := ⟨w.heap.size, 1, none⟩) (.inl (.inr rfl)) _).setCell (p := ⟨w.heap.size, 2, none⟩) (.inl (.inr rfl)) _
      refine bodyPost_ret (v := itemK 6 A5 k c5) ?_ rfl ⟨?_, .inl ⟨ys, at_ + k, A5, c5, HR.out, by rw [Hyl.out], ?_, ?_⟩⟩
      · simp [results, Try.results79, go_sem, itemK, y0, y1, y2]
      · exact ((((((Only.of_fresh (S := fun b => b = g) Hb1.out).trans HO3.out).setCell (p := ⟨w.heap.size + 1, 2, none⟩) (.inr (Nat.le_succ _)) _).setCell (p := ⟨w.heap.size, 0, none⟩) (.inr (Nat.le_refl _)) _).setCell (p := ⟨w.heap.size, 1, none⟩) (.inr (Nat.le_refl _)) _).setCell (p := ⟨w.heap.size, 2, none⟩) (.inr (Nat.le_refl _)) _)
      · rw [Hyl.out]
        exact (Own.only Hown5.out hset (fun b o e h => by have := (Own.lt Hown5.out b o e).1; omega)).mono (by omega)
      · exact ((((HR3.out.setFar ⟨w.heap.size + 1, 2, none⟩ hgx hAx _).setFar ⟨w.heap.size, 0, none⟩ hgy hAy _).setFar ⟨w.heap.size, 1, none⟩ hgy hAy _).setFar ⟨w.heap.size, 2, none⟩ hgy hAy _)
def RReadF (w : World) (g : Nat) (A : Option Addr) (c : Nat) (bs : List UInt8) (at_ : Nat) (R : Except Int Bool) (e : Ending) (w' : World) : Prop :=
  Only (fun b => b = g) w w' ∧ ((∃ x, R = .ok x ∧ e = .returned (itemV 3 (if x then 1 else 0)) ∧ RR w' g A c bs (at_ + 1) 0) ∨
    (∃ f a, R = .error f ∧ e = .returned (itemV 3 0) ∧ RR w' g A c bs a f))
set_option maxRecDepth 100000 in
set_option maxHeartbeats 2000000 in
theorem refL_any (g c at_ : Nat) (n : Int) (A : Option Addr) (bs : List UInt8) (w : World) (h : RR w g A c bs at_ 0) (hl : bs.length ≤ 140737488351232) (hc1 : bs.length ≤ c) (hc2 : A = none → bs.length = 0 ∧ c = 0) :
    Calls Try.prog 79 #[.pointer (some ⟨g, 0, none⟩), .int .i64 3, .int .i64 n] w (RReadF w g A c bs at_ (rBoolL bs at_)) := by
  have hgl := h.blk.lt
  have H := Lib.hid h
  have Hc2 := Lib.hid hc2
  clear h hc2
  obtain ⟨w1, hw1⟩ : ∃ w1, w1 = (w.alloc (.cells #[.int .i64 0, .int .i64 0, .slice none 0 0] 30)).alloc (.cells #[.int .i64 3, .int .i64 0, .slice none 0 0] 30) := ⟨_, rfl⟩
  have hb1 : Below w.heap.size w w1 := by rw [hw1]; exact ((Below.refl _ _).alloc (Nat.le_refl _) _).alloc (by simp) _
  have hX1 : Blk w1 (w.heap.size + 1) 30 #[.int .i64 3, .int .i64 0, .slice none 0 0] := by
    rw [hw1]
    have h := Blk.new (w.alloc (.cells #[.int .i64 0, .int .i64 0, .slice none 0 0] 30)) 30 #[.int .i64 3, .int .i64 0, .slice none 0 0]
    rw [World.size_alloc] at h
    exact h
  have hY1 : Blk w1 w.heap.size 30 #[.int .i64 0, .int .i64 0, .slice none 0 0] := by rw [hw1]; exact (Blk.new w _ _).alloc _
  have htk := rfTake_any g c at_ 0 1 A bs w1 (H.out.below hb1) hl (by have := H.out.le; omega) hc1 Hc2.out
  rw [show ((0 : Nat) : Int) = 0 from rfl, show ((1 : Nat) : Int) = 1 from rfl] at htk
  simp only [Nat.add_zero] at htk
  have Htk := Lib.hid htk
  have Hb1 := Lib.hid hb1
  have hz2 : w.heap.size + 1 < w1.heap.size := hX1.lt
  have HX1 := Lib.hid hX1
  have HY1 := Lib.hid hY1
  have Hw1 := Lib.hid hw1
  clear htk hX1 hY1 hw1 hb1
  go_enter Try.func79, Try.ntmps79
  go_upto_region 2 with (fail)
  rw [← Hw1.out]
  clear Hw1
  go_wp2_with fail
  refine Htk.out.mono ?_
  rintro e w3 ⟨hO3, ⟨hcut, rfl, hR3⟩ | ⟨hfit, A5, c5, rfl, hown5, hR3⟩⟩
  · have hR : rBoolL bs at_ = .error 11 := by unfold rBoolL; rw [if_pos hcut]
    have hX3 := HX1.out.only hO3 (by omega)
    have hY3 := HY1.out.only hO3 (by omega)
    have x0 : w3.cell? ⟨w.heap.size + 1, 0, none⟩ = some (.int .i64 3) := hX3.cell 0
    have x1 : w3.cell? ⟨w.heap.size + 1, 1, none⟩ = some (.int .i64 0) := hX3.cell 1
    have x2 : w3.cell? ⟨w.heap.size + 1, 2, none⟩ = some (.slice none 0 0) := hX3.cell 2
    have xf1 := hX3.frozen 1
    have xf2 := hX3.frozen 2
    have y0 : w3.cell? ⟨w.heap.size, 0, none⟩ = some (.int .i64 0) := hY3.cell 0
    have yf0 := hY3.frozen 0
    have y1 : w3.cell? ⟨w.heap.size, 1, none⟩ = some (.int .i64 0) := hY3.cell 1
    have yf1 := hY3.frozen 1
    have y2 : w3.cell? ⟨w.heap.size, 2, none⟩ = some (.slice none 0 0) := hY3.cell 2
    have yf2 := hY3.frozen 2
    have hxl := hX3.lt
    have hyl := hY3.lt
    have hgx : w.heap.size + 1 ≠ g := by omega
    have hgy : w.heap.size ≠ g := by omega
    have HR3 := Lib.hid hR3
    have HO3 := Lib.hid hO3
    have hz1 := Hb1.out.size
    have HR := Lib.hid hR
    clear hX3 hY3 hO3 hR3 hR Htk HX1 HY1
    go_wp2_with fail
    have hAx : bs ≠ [] → ∀ b o, A = some ⟨b, o, none⟩ → b ≠ w.heap.size + 1 := fun hn b o e => by have := H.out.lt hn b o e; omega
    have hAy : bs ≠ [] → ∀ b o, A = some ⟨b, o, none⟩ → b ≠ w.heap.size := fun hn b o e => by have := H.out.lt hn b o e; omega
    refine bodyPost_ret (v := itemV 3 0) ?_ rfl ⟨?_, .inr ⟨11, at_, HR.out, rfl, ?_⟩⟩
    · simp [results, Try.results79, go_sem, itemV, y0, y1, y2]
    · exact (((((Only.of_fresh (S := fun b => b = g) Hb1.out).trans HO3.out).setCell (p := ⟨w.heap.size, 0, none⟩) (.inr (Nat.le_refl _)) _).setCell (p := ⟨w.heap.size, 1, none⟩) (.inr (Nat.le_refl _)) _).setCell (p := ⟨w.heap.size, 2, none⟩) (.inr (Nat.le_refl _)) _)
    · exact (((HR3.out.setFar ⟨w.heap.size, 0, none⟩ hgy hAy _).setFar ⟨w.heap.size, 1, none⟩ hgy hAy _).setFar ⟨w.heap.size, 2, none⟩ hgy hAy _)
  · obtain ⟨x, hx⟩ : ∃ x, x = (bs.getD at_ 0).toNat := ⟨_, rfl⟩
    have hone : (bs.drop at_).take 1 = [bs.getD at_ 0] := by
      rw [List.getD_eq_getElem?_getD, List.getElem?_eq_getElem (by omega), List.drop_eq_getElem_cons (by omega), List.take_succ_cons, List.take_zero]
      rfl
    rw [hone] at hown5
    obtain ⟨g5, rfl, hg5a, hg5⟩ := ownG_some hown5 (by omega)
    obtain ⟨q0, -, -⟩ := ownG_at hown5 0 (by simp)
    have q5 : w3.cell? ⟨g5, 0, none⟩ = some (.int .u8 (x : Int)) := by rw [q0, hx]; rfl
    have hX3 := HX1.out.only hO3 (by omega)
    have hY3 := HY1.out.only hO3 (by omega)
    have k1 := hR3.c1
    have k2 := hR3.c2
    have k2f := hR3.blk.frozen 2
    have kl := hR3.blk.lt
    have x0 : w3.cell? ⟨w.heap.size + 1, 0, none⟩ = some (.int .i64 3) := hX3.cell 0
    have x1 : w3.cell? ⟨w.heap.size + 1, 1, none⟩ = some (.int .i64 0) := hX3.cell 1
    have x2 : w3.cell? ⟨w.heap.size + 1, 2, none⟩ = some (.slice none 0 0) := hX3.cell 2
    have xf1 := hX3.frozen 1
    have xf2 := hX3.frozen 2
    have y0 : w3.cell? ⟨w.heap.size, 0, none⟩ = some (.int .i64 0) := hY3.cell 0
    have yf0 := hY3.frozen 0
    have y1 : w3.cell? ⟨w.heap.size, 1, none⟩ = some (.int .i64 0) := hY3.cell 1
    have yf1 := hY3.frozen 1
    have y2 : w3.cell? ⟨w.heap.size, 2, none⟩ = some (.slice none 0 0) := hY3.cell 2
    have yf2 := hY3.frozen 2
    have hxl := hX3.lt
    have hyl := hY3.lt
    have hgx : w.heap.size + 1 ≠ g := by omega
    have hgy : w.heap.size ≠ g := by omega
    have HR3 := Lib.hid hR3
    have HO3 := Lib.hid hO3
    have hz1 := Hb1.out.size
    have Hx := Lib.hid hx
    clear hX3 hY3 hO3 hR3 Htk HX1 HY1 hown5 q0 hone hx
    have hrb : rBoolL bs at_ = if 1 < x then .error 12 else .ok (x == 1) := by
      rw [Hx.out]; unfold rBoolL; rw [if_neg (by omega)]
    have Hrb := Lib.hid hrb
    clear hrb
    by_cases hx1 : 1 < x
    · have HR := Lib.hid (show rBoolL bs at_ = .error 12 by rw [Hrb.out, if_pos hx1])
      have hxI : (1 : Int) < (x : Int) := by omega
      clear hx1
      go_wp2_with fail
      have hAx : bs ≠ [] → ∀ b o, A = some ⟨b, o, none⟩ → b ≠ w.heap.size + 1 := fun hn b o e => by have := H.out.lt hn b o e; omega
      have hAy : bs ≠ [] → ∀ b o, A = some ⟨b, o, none⟩ → b ≠ w.heap.size := fun hn b o e => by have := H.out.lt hn b o e; omega
      refine bodyPost_ret (v := itemV 3 0) ?_ rfl ⟨?_, .inr ⟨12, at_ + 1, HR.out, rfl, ?_⟩⟩
      · simp [results, Try.results79, go_sem, itemV, y0, y1, y2]
      · exact ((((((Only.of_fresh (S := fun b => b = g) Hb1.out).trans HO3.out).setCell (p := ⟨g, 2, none⟩) (.inl rfl) _).setCell (p := ⟨w.heap.size, 0, none⟩) (.inr (Nat.le_refl _)) _).setCell (p := ⟨w.heap.size, 1, none⟩) (.inr (Nat.le_refl _)) _).setCell (p := ⟨w.heap.size, 2, none⟩) (.inr (Nat.le_refl _)) _)
      · exact ((((HR3.out.setF 12).setFar ⟨w.heap.size, 0, none⟩ hgy hAy _).setFar ⟨w.heap.size, 1, none⟩ hgy hAy _).setFar ⟨w.heap.size, 2, none⟩ hgy hAy _)
    · have HR := Lib.hid (show rBoolL bs at_ = .ok (x == 1) by rw [Hrb.out, if_neg hx1])
      have hxI : ¬ (1 : Int) < (x : Int) := by omega
      have hxv : (if (x == 1) then (1 : Int) else 0) = (x : Int) := by
        obtain rfl | rfl : x = 0 ∨ x = 1 := by omega
        · rfl
        · rfl
      have Hxv := Lib.hid hxv
      have hwx : IntKind.i64.wrap (x : Int) = (x : Int) := by rw [IntKind.wrap_i64]; omega
      clear hx1 hxv
      go_wp2_with fail
      have hAx : bs ≠ [] → ∀ b o, A = some ⟨b, o, none⟩ → b ≠ w.heap.size + 1 := fun hn b o e => by have := H.out.lt hn b o e; omega
      have hAy : bs ≠ [] → ∀ b o, A = some ⟨b, o, none⟩ → b ≠ w.heap.size := fun hn b o e => by have := H.out.lt hn b o e; omega
      refine bodyPost_ret (v := itemV 3 (x : Int)) ?_ rfl ⟨?_, .inl ⟨x == 1, HR.out, by rw [Hxv.out], ?_⟩⟩
      · simp [results, Try.results79, go_sem, itemV, y0, y1, y2]
      · exact ((((((Only.of_fresh (S := fun b => b = g) Hb1.out).trans HO3.out).setCell (p := ⟨w.heap.size + 1, 1, none⟩) (.inr (Nat.le_succ _)) _).setCell (p := ⟨w.heap.size, 0, none⟩) (.inr (Nat.le_refl _)) _).setCell (p := ⟨w.heap.size, 1, none⟩) (.inr (Nat.le_refl _)) _).setCell (p := ⟨w.heap.size, 2, none⟩) (.inr (Nat.le_refl _)) _)
      · exact ((((HR3.out.setFar ⟨w.heap.size + 1, 1, none⟩ hgx hAx _).setFar ⟨w.heap.size, 0, none⟩ hgy hAy _).setFar ⟨w.heap.size, 1, none⟩ hgy hAy _).setFar ⟨w.heap.size, 2, none⟩ hgy hAy _)
set_option maxRecDepth 100000 in
set_option maxHeartbeats 2000000 in
theorem refM_any (g c at_ : Nat) (n : Int) (A : Option Addr) (bs : List UInt8) (w : World) (h : RR w g A c bs at_ 0) (hl : bs.length ≤ 140737488351232) :
    Calls Try.prog 80 #[.pointer (some ⟨g, 0, none⟩), .int .i64 n] w fun e w' => Only (fun b => b = g) w w' ∧ ((∃ u k, rMostL bs at_ n = .ok (u, k) ∧ e = .returned (.int .i64 (u : Int)) ∧ RR w' g A c bs (at_ + k) 0) ∨
      (∃ f a, rMostL bs at_ n = .error f ∧ e = .returned (.int .i64 0) ∧ RR w' g A c bs a f)) := by
  have Hn := Lib.hid (rfNum_any g c at_ A bs w h hl)
  have H := Lib.hid h
  clear h
  go_enter Try.func80, Try.ntmps80
  go_wp2_with fail
  refine Hn.out.mono ?_
  rintro e w2 (⟨u, k, hr, rfl, hR2, hO2⟩ | ⟨f, hr, rfl, hR2, hO2⟩)
  · have hlt := rNum_lt hr
    have k1 := hR2.c1
    have k2 := hR2.c2
    have kf1 := hR2.blk.frozen 1
    have kf2 := hR2.blk.frozen 2
    have kl := hR2.blk.lt
    have hle2 := hR2.le
    have hk0 : (0 : Int) < (k : Int) := by omega
    have HR2 := Lib.hid hR2
    have HO2 := Lib.hid hO2
    have Hr := Lib.hid hr
    clear Hn hR2 hO2 hr
    by_cases hc : n < (u : Int)
    · have HR := Lib.hid (show rMostL bs at_ n = .error 2 by unfold rMostL; rw [Hr.out]; exact if_pos hc)
      go_wp2_with fail
      go_ret
      exact ⟨HO2.out.setCell (p := ⟨g, 2, none⟩) (.inl rfl) _, .inr ⟨2, at_, HR.out, rfl, HR2.out.setF 2⟩⟩
    · have HR := Lib.hid (show rMostL bs at_ n = .ok (u, k) by unfold rMostL; rw [Hr.out]; exact if_neg hc)
      go_wp2_with fail
      go_ret
      rw [← Int.natCast_add]
      exact ⟨HO2.out.setCell (p := ⟨g, 1, none⟩) (.inl rfl) _, .inl ⟨u, k, HR.out, rfl, HR2.out.setAt (at_ + k) hlt.2.2.1⟩⟩
  · have HR := Lib.hid (show rMostL bs at_ n = .error f by unfold rMostL; rw [hr])
    have k1 := hR2.c1
    have kf1 := hR2.blk.frozen 1
    have kl := hR2.blk.lt
    have hle2 := hR2.le
    have HR2 := Lib.hid hR2
    have HO2 := Lib.hid hO2
    clear Hn hR2 hO2 hr
    go_wp2_with fail
    go_ret
    exact ⟨HO2.out.setCell (p := ⟨g, 1, none⟩) (.inl rfl) _, .inr ⟨f, at_, HR.out, rfl, HR2.out.setAt at_ hle2⟩⟩
end Go.Proofs.Ytefaapcekbgjoaa
