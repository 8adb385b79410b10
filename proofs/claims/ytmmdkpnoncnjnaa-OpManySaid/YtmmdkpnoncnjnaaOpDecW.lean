/- The walk of the law OpDecodes. -/
import Derived.Test.YtmmdkpnoncnjnaaRfDec
import Derived.Test.YtmmdkpnoncnjnaaInsJ
import Derived.Test.YtmmdkpnoncnjnaaMiscK
import Derived.Test.YtmmdkpnoncnjnaaDecK
namespace Go.Proofs.Ytmmdkpnoncnjnaa
open Go.RowKit

set_option maxRecDepth 100000 in
set_option maxHeartbeats 2000000 in
theorem decodes_walk (A : Option Addr) (c : Nat) (bs : List UInt8) (w : World) (hS : Sl w ⟨A, c, bs⟩) (hl : bs.length ≤ 200000000000000) :
    Calls Try.prog 5 #[.slice A bs.length c] w fun e w' => e = .returned (.bool true) ∧ Below w.heap.size w w' := by
  have HS := Lib.hid hS
  clear hS
  obtain ⟨xs, f, hen⟩ : ∃ xs f, decL bs = (xs, f) := ⟨_, _, rfl⟩
  have Hen := Lib.hid hen
  have hxl : xs.length ≤ 4096 := by
    rcases dec_back bs with ⟨-, -, -, h⟩ | ⟨-, h⟩
    · rw [hen] at h; exact h
    · rw [hen] at h; dsimp only at h; rw [h]; simp
  clear hen
  go_enter Try.func5, Try.ntmps5
  go_wp2_with fail
  refine (known_any _).mono ?_
  rintro e w1 ⟨rfl, hb1⟩
  have hz1 := hb1.size
  have Hb1 := Lib.hid hb1
  clear hb1
  go_wp2_with fail
  refine (lend2_any bs A c w1 (HS.out.below Hb1.out).rv (by omega)).mono ?_
  rintro e w2 ⟨rfl, hblk2, hb2⟩
  have hz2 := hb2.size
  have hgl := hblk2.lt
  obtain ⟨g, hg⟩ : ∃ g, g = w1.heap.size := ⟨_, rfl⟩
  rw [← hg] at hblk2 hgl ⊢
  have hg1 : w1.heap.size ≤ g := by omega
  have hrv2 : Sl w2 ⟨some ⟨g, 0, none⟩, bs.length + 67, bs⟩ := ⟨by
    have h1 : RV w2 (some ⟨g, 0, none⟩) ((lent bs).map bv) := by simpa using RV.of_blk hblk2
    have h2 := h1.cut 0 bs.length
    rw [List.drop_zero, ← List.map_take] at h2
    unfold lent at h2
    rw [List.take_append_of_le_length (Nat.le_refl _), List.take_length] at h2
    exact h2, fun h => by cases h⟩
  have hdec := decode_any (some ⟨g, 0, none⟩) (bs.length + 67) bs w2 hrv2 hl
  rw [Hen.out] at hdec
  have Hdec := Lib.hid hdec
  have Hb2 := Lib.hid (Hb1.out.trans (hb2.mono hz1))
  have Hblk2 := Lib.hid hblk2
  clear hblk2 hb2 hrv2 hdec hg
  go_wp2_with fail
  refine Hdec.out.mono ?_
  intro e w3 hpost
  obtain ⟨A3, c3, rfl, hown3, hb3⟩ := hpost
  have hz3 := hb3.size
  have Hb3 := Lib.hid (Hb2.out.trans (hb3.mono (by omega)))
  have Hblk3 := Lib.hid (Hblk2.out.below hb3 hgl)
  have Hown3 := Lib.hid hown3
  clear hb3 hown3 Hdec
  have hren := refDecode_any A c bs w3 (HS.out.below Hb3.out) hl
  rw [Hen.out] at hren
  have Hren := Lib.hid hren
  clear hren
  go_wp2_with fail
  refine Hren.out.mono ?_
  intro e w4 hpost
  obtain ⟨A4, c4, rfl, hown4, hb4⟩ := hpost
  have hz4 := hb4.size
  have Hb4 := Lib.hid (Hb3.out.trans (hb4.mono (by omega)))
  have Hblk4 := Lib.hid (Hblk3.out.below hb4 (by omega))
  have Hown3' := Lib.hid (Own.below Hown3.out hb4 (Nat.le_refl _))
  have Hown4 := Lib.hid hown4
  clear hb4 hown4 Hren
  go_wp2_with fail
  refine (kept2_any bs g A c w4 Hblk4.out (HS.out.below Hb4.out).rv (by omega)).mono ?_
  rintro e w5 ⟨rfl, hO5⟩
  have hrv3 := RV.of_own (Own.only Hown3'.out hO5 fun b o e h => by have := (Own.lt Hown3.out b o e).1; omega)
  have hrv4 := RV.of_own (Own.only Hown4.out hO5 fun b o e h => by have := (Own.lt Hown4.out b o e).1; omega)
  have HB5 := Lib.hid (Hb4.out.trans (hO5.below (B := w.heap.size) (by omega) fun k hk e => by omega))
  have hsame := same_ins A3 A4 c3 c4 xs xs w5 hrv3 hrv4 (by omega) (by omega)
  rw [sameB_self] at hsame
  have Hsame := Lib.hid hsame
  clear hrv3 hrv4 hO5 hsame
  dsimp only at *
  have e0 : (f == f) = true := by simp
  go_wp2_with fail
  refine Hsame.out.mono ?_
  rintro e w6 ⟨rfl, m, rfl⟩
  go_wp2_with fail
  go_ret
  exact ⟨rfl, below_drewN HB5.out m⟩
end Go.Proofs.Ytmmdkpnoncnjnaa
