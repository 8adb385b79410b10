/- The walk of the law ProgOther. -/
import Derived.Test.YtadnjfoinmeloaaPrgKn
import Derived.Test.YtadnjfoinmeloaaPrgRs
import Derived.Test.YtadnjfoinmeloaaPrgBL
namespace Go.Proofs.Ytadnjfoinmeloaa
open Go.RowKit

set_option maxRecDepth 100000 in
set_option maxHeartbeats 2000000 in
theorem progOther_walk (A : Option Addr) (c : Nat) (bs : List UInt8) (w : World) (hS : Sl w ⟨A, c, bs⟩) (hl : bs.length ≤ 200000000000000) :
    Calls Try.prog 7 #[.slice A bs.length c] w fun e w' => e = .returned (.bool true) ∧ Below w.heap.size w w' := by
  have HS := Lib.hid hS
  clear hS
  obtain ⟨P, F, hd⟩ : ∃ P F, decP bs = (P, F) := ⟨_, _, rfl⟩
  have hback := decP_back bs
  rw [hd] at hback
  dsimp only at hback
  have Hback := Lib.hid hback
  have Hd := Lib.hid hd
  clear hback hd
  go_enter Try.func7, Try.ntmps7
  go_wp2_with fail
  refine (knownP_any _).mono ?_
  rintro e w1 ⟨rfl, hb1⟩
  have hz1 := hb1.size
  have Hb1 := Lib.hid hb1
  clear hb1
  have hdec := decodeP_any A c bs w1 (HS.out.below Hb1.out) hl
  rw [Hd.out] at hdec
  have Hdec := Lib.hid hdec
  clear hdec
  go_wp2_with fail
  refine Hdec.out.mono ?_
  intro e w2 hpost
  obtain ⟨pm, hpm, rfl, hown, hb2⟩ := hpost
  dsimp only at hpm ⊢
  have hz2 := hb2.size
  have hb3 : Below w2.heap.size w2 (w2.alloc (.cells #[.int .i64 pm.mem, .slice pm.AD pm.data.length pm.cD, .slice pm.AF pm.fs.length pm.cF] 25)) := (Below.refl _ _).alloc (Nat.le_refl _) _
  have hat := hown.at_.below hb3
  have hbb2 := Hb1.out.trans (hb2.mono hz1)
  have Hb2 := Lib.hid hbb2
  have Hb3 := Lib.hid (hbb2.trans (hb3.mono hbb2.size))
  have hB3 : Blk (w2.alloc (.cells #[.int .i64 pm.mem, .slice pm.AD pm.data.length pm.cD, .slice pm.AF pm.fs.length pm.cF] 25)) w2.heap.size 25 #[.int .i64 pm.mem, .slice pm.AD pm.data.length pm.cD, .slice pm.AF pm.fs.length pm.cF] := Blk.new w2 _ _
  have HB3 := Lib.hid hB3
  rcases Hback.out with ⟨h0, henc, hck⟩ | ⟨h0, hP⟩
  rotate_left
  · have hsm := refSameP_any pm ⟨0, none, 0, [], none, 0, []⟩ _ hat (prgAt_nil _)
    rw [hpm, hP, show sameP noPrg (PrgM.plain ⟨0, none, 0, [], none, 0, []⟩) = true from (sameP_iff _ _).2 rfl] at hsm
    have Hsm := Lib.hid hsm
    have t1 : (F == 0) = false := by simpa using h0
    have t2 : (F != 0) = true := by simpa using h0
    have h0 : ¬ F = 0 := h0
    clear hsm hat hpm hP hown hb2 hb3 hbb2 hB3 Hdec
    go_wp2_with fail
    refine Hsm.out.mono ?_
    rintro e w4 ⟨rfl, hb4⟩
    have HF := Lib.hid (Hb3.out.trans (hb4.mono Hb3.out.size))
    clear hb4 Hsm
    go_wp2_with fail
    go_ret
    exact ⟨rfl, HF.out⟩
  · subst h0
    have hen := pEncode_any pm _ hat
    rw [hpm, henc] at hen
    have Hen := Lib.hid hen
    have Hat := Lib.hid hat
    have Hpm := Lib.hid hpm
    have Hck := Lib.hid hck
    clear hen hat hpm hown hb2 hb3 hbb2 hB3 Hdec henc hck
    go_wp2_with fail
    refine Hen.out.mono ?_
    intro e w4 hpost
    obtain ⟨A4, c4, rfl, hown4, hb4⟩ := hpost
    dsimp only at hown4 ⊢
    have hrv4 := RV.of_own hown4
    have HB4 := Lib.hid (HB3.out.below hb4 HB3.out.lt)
    have Hb4 := Lib.hid (Hb3.out.trans (hb4.mono Hb3.out.size))
    have hck4 := check_any pm w4 (Hat.out.below hb4)
    rw [Hpm.out, Hck.out] at hck4
    have p0 : w4.cell? ⟨w2.heap.size, 0, none⟩ = some (.int .i64 pm.mem) := HB4.out.cell 0
    have p1 : w4.cell? ⟨w2.heap.size, 1, none⟩ = some (.slice pm.AD pm.data.length pm.cD) := HB4.out.cell 1
    have p2 : w4.cell? ⟨w2.heap.size, 2, none⟩ = some (.slice pm.AF pm.fs.length pm.cF) := HB4.out.cell 2
    have hpl := HB4.out.lt
    have Hrv4 := Lib.hid hrv4
    have Hrv0 := Lib.hid (HS.out.below Hb4.out).rv
    have Hck4 := Lib.hid hck4
    clear hrv4 hb4 hown4 hck4 Hen Hb3 HB3
    go_wp2_with (first | (refine wpList_at 28 rfl ?_; refine wpList_bytesStrG rfl (.tmp 27) (A := A4) (c := c4) (ys := bs) rfl rfl Hrv4.out Try.underlying22 Try.underlying5 Try.underlying9 ?_) | (refine wpList_at 30 rfl ?_; refine wpList_bytesStrG rfl (.tmp 29) (A := A) (c := c) (ys := bs) rfl rfl Hrv0.out Try.underlying22 Try.underlying5 Try.underlying9 ?_))
    refine Hck4.out.mono ?_
    rintro e w5 ⟨rfl, hb5⟩
    have HF := Lib.hid (Hb4.out.trans (hb5.mono Hb4.out.size))
    clear hb5 Hck4
    go_wp2_with fail
    go_ret
    exact ⟨rfl, HF.out⟩
end Go.Proofs.Ytadnjfoinmeloaa
