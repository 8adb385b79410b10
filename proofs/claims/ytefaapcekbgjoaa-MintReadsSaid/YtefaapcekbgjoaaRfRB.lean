/- The reference's Reader: Read of bytes. -/
import Derived.Test.YtefaapcekbgjoaaRfTk
namespace Go.Proofs.Ytefaapcekbgjoaa
open Go.RowKit

def itemB (A : Option Addr) (n c : Nat) : Value := .agg #[.int .i64 4, .int .i64 0, .slice A n c]
def RReadB (w : World) (g : Nat) (A : Option Addr) (c : Nat) (bs : List UInt8) (at_ : Nat) (R : Except Int (List UInt8 × Nat)) (e : Ending) (w' : World) : Prop :=
  Only (fun b => b = g) w w' ∧ ((∃ ys a2 A5 c5, R = .ok (ys, a2) ∧ e = .returned (itemB A5 ys.length c5) ∧ OwnB w' w.heap.size A5 ys.length c5 ys ∧ RR w' g A c bs a2 0) ∨
    (∃ f, R = .error f ∧ e = .returned (itemB none 0 0) ∧ RR w' g A c bs at_ f))
set_option maxRecDepth 100000 in
set_option maxHeartbeats 1000000 in
theorem rfReadB_any (g c at_ : Nat) (A : Option Addr) (bs : List UInt8) (w : World) (h : RR w g A c bs at_ 0) (hl : bs.length ≤ 140737488351232) (hc1 : bs.length ≤ c) (hc2 : A = none → bs.length = 0 ∧ c = 0) :
    Calls Try.prog 79 #[.pointer (some ⟨g, 0, none⟩), .int .i64 4, .int .i64 0] w (RReadB w g A c bs at_ (rBytesL bs at_)) := by
  have hgl := h.blk.lt
  have H := Lib.hid h
  have Hc2 := Lib.hid hc2
  clear h hc2
  go_enter Try.func79, Try.ntmps79
  go_wp2_with fail
  obtain ⟨w1, hw1⟩ : ∃ w1, w1 = (w.alloc (.cells #[.int .i64 0, .int .i64 0, .slice none 0 0] 30)).alloc (.cells #[.int .i64 4, .int .i64 0, .slice none 0 0] 30) := ⟨_, rfl⟩
  rw [← hw1]
  have hb1 : Below w.heap.size w w1 := by rw [hw1]; exact ((Below.refl _ _).alloc (Nat.le_refl _) _).alloc (by simp) _
  have hX1 : Blk w1 (w.heap.size + 1) 30 #[.int .i64 4, .int .i64 0, .slice none 0 0] := by
    rw [hw1]
    have h := Blk.new (w.alloc (.cells #[.int .i64 0, .int .i64 0, .slice none 0 0] 30)) 30 #[.int .i64 4, .int .i64 0, .slice none 0 0]
    rw [World.size_alloc] at h
    exact h
  have hY1 : Blk w1 w.heap.size 30 #[.int .i64 0, .int .i64 0, .slice none 0 0] := by rw [hw1]; exact (Blk.new w _ _).alloc _
  have hn := rfNum_any g c at_ A bs w1 (H.out.below hb1) hl
  have HX1 := Lib.hid hX1
  have HY1 := Lib.hid hY1
  have Hn := Lib.hid hn
  have Hb1 := Lib.hid hb1
  clear hn hX1 hY1 hw1 hb1
  refine Hn.out.mono ?_
  rintro e w2 (⟨u, k, hr, rfl, hR2, hO2⟩ | ⟨f, hr, rfl, hR2, hO2⟩)
  · have hlt := rNum_lt hr
    have htk := rfTake_any g c at_ k u A bs w2 hR2 hl (by omega) hc1 Hc2.out
    have hX2 := HX1.out.only hO2 (by omega)
    have hY2 := HY1.out.only hO2 (by omega)
    have HX2 := Lib.hid hX2
    have HY2 := Lib.hid hY2
    have hk0 : (0 : Int) < (k : Int) := by omega
    have Htk := Lib.hid htk
    have Hr := Lib.hid hr
    have hxl2 := hX2.lt
    have HO2 := Lib.hid hO2
    clear hX2 hY2 Hn hR2 hO2 htk hr HX1 HY1
    go_wp2_with fail
    refine Htk.out.mono ?_
    rintro e w3 ⟨hO3, ⟨hcut, rfl, hR3⟩ | ⟨hfit, A5, c5, rfl, hown5, hR3⟩⟩
    · have hR : rBytesL bs at_ = .error 11 := by unfold rBytesL; rw [Hr.out]; exact if_pos hcut
      have hX3 := HX2.out.only hO3 (by omega)
      have hY3 := HY2.out.only hO3 (by omega)
      have x0 : w3.cell? ⟨w.heap.size + 1, 0, none⟩ = some (.int .i64 4) := hX3.cell 0
      have x1 : w3.cell? ⟨w.heap.size + 1, 1, none⟩ = some (.int .i64 0) := hX3.cell 1
      have x2 : w3.cell? ⟨w.heap.size + 1, 2, none⟩ = some (.slice none 0 0) := hX3.cell 2
      have xf2 := hX3.frozen 2
      have y0 : w3.cell? ⟨w.heap.size, 0, none⟩ = some (.int .i64 0) := hY3.cell 0
      have y1 : w3.cell? ⟨w.heap.size, 1, none⟩ = some (.int .i64 0) := hY3.cell 1
      have y2 : w3.cell? ⟨w.heap.size, 2, none⟩ = some (.slice none 0 0) := hY3.cell 2
      have yf0 := hY3.frozen 0
      have yf1 := hY3.frozen 1
      have yf2 := hY3.frozen 2
      have hxl := hX3.lt
      have hyl := hY3.lt
      have hgx : w.heap.size + 1 ≠ g := by omega
      have hgy : w.heap.size ≠ g := by omega
      have HR3 := Lib.hid hR3
      have HO3 := Lib.hid (HO2.out.trans hO3)
      have hz2 := HO2.out.size
      have HR := Lib.hid hR
      clear hX3 hY3 hO3 hR3 hR Htk HX2 HY2
      go_wp2_with fail
      have hAx : bs ≠ [] → ∀ b o, A = some ⟨b, o, none⟩ → b ≠ w.heap.size + 1 := fun hn b o e => by have := H.out.lt hn b o e; omega
      have hAy : bs ≠ [] → ∀ b o, A = some ⟨b, o, none⟩ → b ≠ w.heap.size := fun hn b o e => by have := H.out.lt hn b o e; omega
      refine bodyPost_ret (v := itemB none 0 0) ?_ rfl ⟨?_, .inr ⟨11, HR.out, rfl, ?_⟩⟩
      · simp [results, Try.results79, go_sem, itemB, y0, y1, y2]
      · exact ((((((Only.of_fresh (S := fun b => b = g) Hb1.out).trans HO3.out).setCell (p := ⟨w.heap.size + 1, 2, none⟩) (.inr (Nat.le_succ _)) _).setCell (p := ⟨w.heap.size, 0, none⟩) (.inr (Nat.le_refl _)) _).setCell (p := ⟨w.heap.size, 1, none⟩) (.inr (Nat.le_refl _)) _).setCell (p := ⟨w.heap.size, 2, none⟩) (.inr (Nat.le_refl _)) _)
      · exact (((HR3.out.setFar ⟨w.heap.size + 1, 2, none⟩ hgx hAx _).setFar ⟨w.heap.size, 0, none⟩ hgy hAy _).setFar ⟨w.heap.size, 1, none⟩ hgy hAy _).setFar ⟨w.heap.size, 2, none⟩ hgy hAy _
    · have hR : rBytesL bs at_ = .ok ((bs.drop (at_ + k)).take u, at_ + k + u) := by unfold rBytesL; rw [Hr.out]; exact if_neg (by omega)
      obtain ⟨ys, hys⟩ : ∃ ys, ys = (bs.drop (at_ + k)).take u := ⟨_, rfl⟩
      have hyl' : ys.length = u := by rw [hys, List.length_take, List.length_drop]; omega
      rw [← hys] at hR hown5
      have Hyl := Lib.hid hyl'
      have Hown5 := Lib.hid hown5
      clear hys hyl' hown5
      have hX3 := HX2.out.only hO3 (by omega)
      have hY3 := HY2.out.only hO3 (by omega)
      have x0 : w3.cell? ⟨w.heap.size + 1, 0, none⟩ = some (.int .i64 4) := hX3.cell 0
      have x1 : w3.cell? ⟨w.heap.size + 1, 1, none⟩ = some (.int .i64 0) := hX3.cell 1
      have x2 : w3.cell? ⟨w.heap.size + 1, 2, none⟩ = some (.slice none 0 0) := hX3.cell 2
      have xf2 := hX3.frozen 2
      have y0 : w3.cell? ⟨w.heap.size, 0, none⟩ = some (.int .i64 0) := hY3.cell 0
      have y1 : w3.cell? ⟨w.heap.size, 1, none⟩ = some (.int .i64 0) := hY3.cell 1
      have y2 : w3.cell? ⟨w.heap.size, 2, none⟩ = some (.slice none 0 0) := hY3.cell 2
      have yf0 := hY3.frozen 0
      have yf1 := hY3.frozen 1
      have yf2 := hY3.frozen 2
      have hxl := hX3.lt
      have hyl := hY3.lt
      have hgx : w.heap.size + 1 ≠ g := by omega
      have hgy : w.heap.size ≠ g := by omega
      have HR3 := Lib.hid hR3
      have HO3 := Lib.hid (HO2.out.trans hO3)
      have hz2 := HO2.out.size
      have HR := Lib.hid hR
      clear hX3 hY3 hO3 hR3 hR Htk HX2 HY2
      go_wp2_with fail
      have hAx : bs ≠ [] → ∀ b o, A = some ⟨b, o, none⟩ → b ≠ w.heap.size + 1 := fun hn b o e => by have := H.out.lt hn b o e; omega
      have hAy : bs ≠ [] → ∀ b o, A = some ⟨b, o, none⟩ → b ≠ w.heap.size := fun hn b o e => by have := H.out.lt hn b o e; omega
      have hw12 := Hb1.out.size
      have hset : Only (fun b => b = w.heap.size + 1 ∨ b = w.heap.size) w3 ((((w3.setCell ⟨w.heap.size + 1, 2, none⟩ (.slice A5 u c5)).setCell ⟨w.heap.size, 0, none⟩ (.int .i64 4)).setCell ⟨w.heap.size, 1, none⟩ (.int .i64 0)).setCell ⟨w.heap.size, 2, none⟩ (.slice A5 u c5)) := ((((Only.refl _ w3).setCell (p := ⟨w.heap.size + 1, 2, none⟩) (.inl (.inl rfl)) _).setCell (p := ⟨w.heap.size, 0, none⟩) (.inl (.inr rfl)) _).setCell (p := ⟨w.heap.size, 1, none⟩) (.inl (.inr rfl)) _).setCell (p := ⟨w.heap.size, 2, none⟩) (.inl (.inr rfl)) _
      refine bodyPost_ret (v := itemB A5 u c5) ?_ rfl ⟨?_, .inl ⟨ys, at_ + k + u, A5, c5, HR.out, by rw [Hyl.out], ?_, ?_⟩⟩
      · simp [results, Try.results79, go_sem, itemB, y0, y1, y2]
      · exact ((((((Only.of_fresh (S := fun b => b = g) Hb1.out).trans HO3.out).setCell (p := ⟨w.heap.size + 1, 2, none⟩) (.inr (Nat.le_succ _)) _).setCell (p := ⟨w.heap.size, 0, none⟩) (.inr (Nat.le_refl _)) _).setCell (p := ⟨w.heap.size, 1, none⟩) (.inr (Nat.le_refl _)) _).setCell (p := ⟨w.heap.size, 2, none⟩) (.inr (Nat.le_refl _)) _)
      · rw [Hyl.out]
        exact (Own.only Hown5.out hset (fun b o e h => by have := (Own.lt Hown5.out b o e).1; omega)).mono (by omega)
      · exact (((HR3.out.setFar ⟨w.heap.size + 1, 2, none⟩ hgx hAx _).setFar ⟨w.heap.size, 0, none⟩ hgy hAy _).setFar ⟨w.heap.size, 1, none⟩ hgy hAy _).setFar ⟨w.heap.size, 2, none⟩ hgy hAy _
  · have hR : rBytesL bs at_ = .error f := by unfold rBytesL; rw [hr]
    have hX2 := HX1.out.only hO2 (by omega)
    have hY2 := HY1.out.only hO2 (by omega)
    have x0 : w2.cell? ⟨w.heap.size + 1, 0, none⟩ = some (.int .i64 4) := hX2.cell 0
    have x1 : w2.cell? ⟨w.heap.size + 1, 1, none⟩ = some (.int .i64 0) := hX2.cell 1
    have x2 : w2.cell? ⟨w.heap.size + 1, 2, none⟩ = some (.slice none 0 0) := hX2.cell 2
    have y0 : w2.cell? ⟨w.heap.size, 0, none⟩ = some (.int .i64 0) := hY2.cell 0
    have y1 : w2.cell? ⟨w.heap.size, 1, none⟩ = some (.int .i64 0) := hY2.cell 1
    have y2 : w2.cell? ⟨w.heap.size, 2, none⟩ = some (.slice none 0 0) := hY2.cell 2
    have yf0 := hY2.frozen 0
    have yf1 := hY2.frozen 1
    have yf2 := hY2.frozen 2
    have hxl := hX2.lt
    have hyl := hY2.lt
    have hgy : w.heap.size ≠ g := by omega
    have HR2 := Lib.hid hR2
    have HO2 := Lib.hid hO2
    have HR := Lib.hid hR
    clear hX2 hY2 Hn hR2 hO2 hR hr HX1 HY1
    go_wp2_with fail
    have hAy : bs ≠ [] → ∀ b o, A = some ⟨b, o, none⟩ → b ≠ w.heap.size := fun hn b o e => by have := H.out.lt hn b o e; omega
    refine bodyPost_ret (v := itemB none 0 0) ?_ rfl ⟨?_, .inr ⟨f, HR.out, rfl, ?_⟩⟩
    · simp [results, Try.results79, go_sem, itemB, y0, y1, y2]
    · exact (((((Only.of_fresh (S := fun b => b = g) Hb1.out).trans HO2.out).setCell (p := ⟨w.heap.size, 0, none⟩) (.inr (Nat.le_refl _)) _).setCell (p := ⟨w.heap.size, 1, none⟩) (.inr (Nat.le_refl _)) _).setCell (p := ⟨w.heap.size, 2, none⟩) (.inr (Nat.le_refl _)) _)
    · exact ((HR2.out.setFar ⟨w.heap.size, 0, none⟩ hgy hAy _).setFar ⟨w.heap.size, 1, none⟩ hgy hAy _).setFar ⟨w.heap.size, 2, none⟩ hgy hAy _
end Go.Proofs.Ytefaapcekbgjoaa
