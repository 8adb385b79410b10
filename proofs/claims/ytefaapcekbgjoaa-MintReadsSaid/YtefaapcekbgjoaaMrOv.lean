/- A Reader behind its Read's end, asked all that it can be asked. -/
import Derived.Test.YtefaapcekbgjoaaOver
namespace Go.Proofs.Ytefaapcekbgjoaa
open Go.RowKit

set_option maxRecDepth 100000 in
theorem over_any {w : World} {g c at_ : Nat} {A : Option Addr} {bs : List UInt8} {f : Int} (h : Rd w g A c bs at_ true f) : Calls Try.prog 39 #[.pointer (some ⟨g, 0, none⟩)] w fun e w' => e = .returned (.bool true) ∧ w' = w := by
  have HN := Lib.hid (num_over h)
  have HI := Lib.hid (int_over h)
  have HB := Lib.hid (bool_over h)
  have HY := Lib.hid (bytes_over h)
  have HT := Lib.hid (text_over h)
  have HF := Lib.hid (fail_over g c at_ A bs 9 f w h)
  have HR := Lib.hid (raw_over 1 h)
  have HM := Lib.hid (most_over 9 h)
  have HL := Lib.hid (left_over h)
  clear h
  go_enter Try.func39, Try.ntmps39
  go_wp2_with fail
  refine HN.out.mono ?_
  rintro e w ⟨rfl, rfl⟩
  go_wp2_with fail
  refine HI.out.mono ?_
  rintro e w ⟨rfl, rfl⟩
  go_wp2_with fail
  refine HB.out.mono ?_
  rintro e w ⟨rfl, rfl⟩
  go_wp2_with fail
  refine HY.out.mono ?_
  rintro e w ⟨rfl, rfl⟩
  go_wp2_with fail
  refine HT.out.mono ?_
  rintro e w ⟨rfl, rfl⟩
  go_wp2_with fail
  refine HF.out.mono ?_
  rintro e w ⟨rfl, rfl⟩
  go_wp2_with fail
  refine HR.out.mono ?_
  rintro e w ⟨rfl, rfl⟩
  go_wp2_with fail
  refine HM.out.mono ?_
  rintro e w ⟨rfl, rfl⟩
  go_wp2_with fail
  refine HL.out.mono ?_
  rintro e w ⟨rfl, rfl⟩
  go_wp2_with fail
  refine HN.out.mono ?_
  rintro e w ⟨rfl, rfl⟩
  go_wp2_with fail
  go_ret
  exact ⟨rfl, rfl⟩
end Go.Proofs.Ytefaapcekbgjoaa
