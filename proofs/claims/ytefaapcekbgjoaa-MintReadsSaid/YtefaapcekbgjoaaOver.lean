/- A Reader whose Read has ended, or that has met a fault: its calls answer nothing. -/
import Derived.Test.YtefaapcekbgjoaaRdK
namespace Go.Proofs.Ytefaapcekbgjoaa
open Go.RowKit

section
variable {w : World} {g c at_ : Nat} {A : Option Addr} {bs : List UInt8} {f : Int}
theorem num_over (h : Rd w g A c bs at_ true f) : Calls Try.prog 32 #[.pointer (some ⟨g, 0, none⟩)] w fun e w' => e = .returned (.int .i64 0) ∧ w' = w := by
  have k2 := h.c2
  have hgl := h.blk.lt
  clear h
  go_enter Try.func32, Try.ntmps32
  go_wp2_with fail
  go_ret
  exact ⟨rfl, rfl⟩
theorem int_over (h : Rd w g A c bs at_ true f) : Calls Try.prog 68 #[.pointer (some ⟨g, 0, none⟩)] w fun e w' => e = .returned (.int .i64 0) ∧ w' = w := by
  have k2 := h.c2
  have hgl := h.blk.lt
  clear h
  go_enter Try.func68, Try.ntmps68
  go_wp2_with fail
  go_ret
  exact ⟨rfl, rfl⟩
theorem bool_over (h : Rd w g A c bs at_ true f) : Calls Try.prog 69 #[.pointer (some ⟨g, 0, none⟩)] w fun e w' => e = .returned (.bool false) ∧ w' = w := by
  have k2 := h.c2
  have hgl := h.blk.lt
  clear h
  go_enter Try.func69, Try.ntmps69
  go_wp2_with fail
  go_ret
  exact ⟨rfl, rfl⟩
theorem bytes_over (h : Rd w g A c bs at_ true f) : Calls Try.prog 70 #[.pointer (some ⟨g, 0, none⟩)] w fun e w' => e = .returned (.slice none 0 0) ∧ w' = w := by
  have k2 := h.c2
  have hgl := h.blk.lt
  clear h
  go_enter Try.func70, Try.ntmps70
  go_wp2_with fail
  go_ret
  exact ⟨rfl, rfl⟩
theorem raw_over (n : Int) (h : Rd w g A c bs at_ true f) : Calls Try.prog 33 #[.pointer (some ⟨g, 0, none⟩), .int .i64 n] w fun e w' => e = .returned (.slice none 0 0) ∧ w' = w := by
  have k2 := h.c2
  have hgl := h.blk.lt
  clear h
  go_enter Try.func33, Try.ntmps33
  go_wp2_with fail
  go_ret
  exact ⟨rfl, rfl⟩
theorem left_over (h : Rd w g A c bs at_ true f) : Calls Try.prog 34 #[.pointer (some ⟨g, 0, none⟩)] w fun e w' => e = .returned (.int .i64 0) ∧ w' = w := by
  have k2 := h.c2
  have hgl := h.blk.lt
  clear h
  go_enter Try.func34, Try.ntmps34
  go_wp2_with fail
  go_ret
  exact ⟨rfl, rfl⟩
theorem text_over (h : Rd w g A c bs at_ true f) : Calls Try.prog 44 #[.pointer (some ⟨g, 0, none⟩)] w fun e w' => e = .returned (.string ⟨#[]⟩) ∧ w' = w := by
  have k2 := h.c2
  have hgl := h.blk.lt
  have hb := bytes_over h
  have Hb := Lib.hid hb
  clear h hb
  go_enter Try.func44, Try.ntmps44
  go_wp2_with fail
  refine Hb.out.mono ?_
  rintro e w ⟨rfl, rfl⟩
  go_wp2_with (refine wpList_bytesStr rfl (.tmp 4) (A := none) (c := 0) (ys := []) rfl rfl (RV.nil _ _) Try.underlying22 Try.underlying5 Try.underlying9 ?_)
  go_ret
  exact ⟨rfl, rfl⟩
theorem most_over (n : Int) (h : Rd w g A c bs at_ true f) : Calls Try.prog 71 #[.pointer (some ⟨g, 0, none⟩), .int .i64 n] w fun e w' => e = .returned (.int .i64 0) ∧ w' = w := by
  have k2 := h.c2
  have hgl := h.blk.lt
  have hb := num_over h
  have Hb := Lib.hid hb
  clear h hb
  go_enter Try.func71, Try.ntmps71
  go_wp2_with fail
  refine Hb.out.mono ?_
  rintro e w ⟨rfl, rfl⟩
  go_wp2_with fail
  go_ret
  exact ⟨rfl, rfl⟩
end
end Go.Proofs.Ytefaapcekbgjoaa
