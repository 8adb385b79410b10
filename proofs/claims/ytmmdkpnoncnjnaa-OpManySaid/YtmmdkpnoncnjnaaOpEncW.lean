/- The walk of the law OpEncodes. -/
import Derived.Test.YtmmdkpnoncnjnaaRfEnc
import Derived.Test.YtmmdkpnoncnjnaaInsJ
namespace Go.Proofs.Ytmmdkpnoncnjnaa
open Go.RowKit

set_option maxRecDepth 100000 in
set_option maxHeartbeats 2000000 in
theorem encodes_walk (A : Option Addr) (c : Nat) (l : List Ins) (w : World) (hi : RV w A (l.flatMap insCells) ∧ ∀ i ∈ l, InsOk i) (hl : l.length ≤ 8796093021952) :
    Calls Try.prog 4 #[.slice A l.length c] w fun e w' => e = .returned (.bool true) ∧ Below w.heap.size w w' := by
  obtain ⟨hR, hok⟩ := hi
  have HR := Lib.hid hR
  have Hok := Lib.hid hok
  clear hR hok
  obtain ⟨xs, f, hen⟩ : ∃ xs f, encL l = (xs, f) := ⟨_, _, rfl⟩
  have Hen := Lib.hid hen
  clear hen
  go_enter Try.func4, Try.ntmps4
  go_wp2_with fail
  refine (known_any _).mono ?_
  rintro e w1 ⟨rfl, hb1⟩
  have hz1 := hb1.size
  have Hb1 := Lib.hid hb1
  clear hb1
  go_wp2_with fail
  refine (lend_ins A c l w1 (HR.out.below Hb1.out) hl).mono ?_
  intro e w2 hpost
  obtain ⟨g, rfl, hblk2, hg, hb2⟩ := hpost
  have hz2 := hb2.size
  have hgl := hblk2.lt
  have hrv2 : RV w2 (some ⟨g, 0, none⟩) (l.flatMap insCells) := by
    have h1 := BlkI.rv hblk2 l.length (by rw [length_lentI _ _ _ (Nat.le_refl _)]; omega)
    rwa [show (lentI l 67 67).take l.length = l from by unfold lentI; rw [List.take_append_of_le_length (Nat.le_refl _), List.take_length]] at h1
  have henc := encode_any (some ⟨g, 0, none⟩) (l.length + 67) l w2 hrv2 Hok.out (by unfold maxLen; omega)
  rw [Hen.out] at henc
  have Henc := Lib.hid henc
  have Hb2 := Lib.hid (Hb1.out.trans (hb2.mono hz1))
  have Hblk2 := Lib.hid hblk2
  clear hblk2 hb2 hrv2 henc
  go_wp2_with fail
  refine Henc.out.mono ?_
  intro e w3 hpost
  obtain ⟨A3, c3, rfl, hown3, hb3⟩ := hpost
  have hz3 := hb3.size
  have Hb3 := Lib.hid (Hb2.out.trans (hb3.mono (by omega)))
  have Hblk3 := Lib.hid (Hblk2.out.below hb3 hgl)
  have Hown3 := Lib.hid hown3
  clear hb3 hown3 Henc
  have hren := refEncode_any A c l w3 (HR.out.below Hb3.out) Hok.out (by unfold maxLen; omega)
  rw [Hen.out] at hren
  have Hren := Lib.hid hren
  clear hren
  go_wp2_with fail
  refine Hren.out.mono ?_
  intro e w4 hpost
  obtain ⟨A4, c4, rfl, hown4, hb4⟩ := hpost
  have hz4 := hb4.size
  have Hb4 := Lib.hid (Hb3.out.trans (hb4.mono (by omega)))
  have Hblk4 := Lib.hid (Hblk3.out.below hb4 (by omega))
  have Hown3' := Lib.hid (Own.below Hown3.out hb4 (Nat.le_refl _))
  have Hown4 := Lib.hid hown4
  clear hb4 hown4 Hren
  go_wp2_with fail
  refine (kept_ins A c g l w4 (HR.out.below Hb4.out) Hblk4.out hl).mono ?_
  rintro e w5 ⟨rfl, hO5⟩
  have hrv3 := RV.of_own (Own.only Hown3'.out hO5 fun b o e h => by have := (Own.lt Hown3.out b o e).1; omega)
  have hrv4 := RV.of_own (Own.only Hown4.out hO5 fun b o e h => by have := (Own.lt Hown4.out b o e).1; omega)
  have HB5 := Lib.hid (Hb4.out.trans (hO5.below (B := w.heap.size) (by omega) fun k hk e => by omega))
  have Hrv3 := Lib.hid hrv3
  have Hrv4 := Lib.hid hrv4
  clear hrv3 hrv4 hO5
  dsimp only at *
  have e0 : (f == f) = true := by simp
  go_wp2_with (first
    | (refine wpList_at 32 rfl ?_; refine wpList_bytesStrG rfl (.tmp 31) (A := A3) (c := c3) (ys := xs) rfl rfl Hrv3.out Try.underlying32 Try.underlying5 Try.underlying9 ?_)
    | (refine wpList_at 34 rfl ?_; refine wpList_bytesStrG rfl (.tmp 33) (A := A4) (c := c4) (ys := xs) rfl rfl Hrv4.out Try.underlying32 Try.underlying5 Try.underlying9 ?_))
  go_ret
  exact ⟨rfl, HB5.out⟩
end Go.Proofs.Ytmmdkpnoncnjnaa
