/- The law's own check of one known digest: it says yes. -/
import Derived.Test.YtmlkfkpffbbfaaaShaOf
import Derived.Lib.SlBytesConst
namespace Go.Proofs.Ytmlkfkpffbbfaaa
open Go.RowKit

set_option maxRecDepth 1000000 in
theorem sha_abc : sha [97, 98, 99] = [0xba, 0x78, 0x16, 0xbf, 0x8f, 0x01, 0xcf, 0xea, 0x41, 0x41, 0x40, 0xde, 0x5d, 0xae, 0x22, 0x23, 0xb0, 0x03, 0x61, 0xa3, 0x96, 0x17, 0x7a, 0x9c, 0xb4, 0x10, 0xff, 0x61, 0xf2, 0x00, 0x15, 0xad] := by kernel_rfl
theorem rv_alloc (w : World) (C : List Value) (t : TypeId) (fr : Nat × Nat) (n : Nat) (hn : n = w.heap.size) : RV (w.alloc (.cells C.toArray t fr)) (some ⟨n, 0, none⟩) C := by
  subst hn
  exact .inr ⟨w.heap.size, 0, rfl, by simp, fun j u hu => by
    rw [Nat.zero_add, World.cell?_alloc_mark]
    simpa using hu⟩
theorem known_any (w : World) :
    Calls Try.prog 12 #[] w fun e w' => e = .returned (.bool true) ∧ Below w.heap.size w w' := by
  have hcv := Lib.run_convert_bytes_const (P := Try.prog) w 25 5 #[.int .u8 97, .int .u8 98, .int .u8 99] 3 3 Try.underlying25 Try.underlying5
  go_enter Try.func12, Try.ntmps12
  go_wp2_with fail
  clear hcv
  refine (of_any [[97, 98, 99]] (some ⟨w.heap.size + 1, 0, none⟩) 1 _ ⟨[.slice (some ⟨w.heap.size, 0, none⟩) 3 3], ?_, rfl, ?_⟩ (by decide) (by decide)).mono ?_
  · exact rv_alloc _ [_] _ _ _ (by simp)
  · intro i hi
    match i, hi with
    | 0, _ =>
      refine ⟨_, rfl, some ⟨w.heap.size, 0, none⟩, 3, rfl, ?_, Nat.le_refl 3, by unfold maxLen; decide⟩
      exact (rv_alloc w (List.map bv [97, 98, 99]) _ _ _ rfl).alloc _
  rintro e w2 ⟨rfl, hb2⟩
  rw [show ([[97, 98, 99]] : List (List UInt8)).flatten = [97, 98, 99] from rfl, sha_abc]
  have hB2 : Below w.heap.size w w2 := (((Below.refl _ _).alloc (Nat.le_refl _) _).alloc (by simp) _).trans (hb2.mono (by simp; omega))
  clear hb2
  go_wp2_with (first
    | (refine wpList_at 1 rfl ?_; refine wpList_allocZ rfl 28 rfl (List.replicate 32 (.int .u8 0)) (fun ev w => by kernel_rfl) ?_; intro w3 hblk3 hb3 hz3)
    | (refine wpList_storeB rfl 28 (.tmp 1) (.tmp 5) rfl (List.map bv [0xba, 0x78, 0x16, 0xbf, 0x8f, 0x01, 0xcf, 0xea, 0x41, 0x41, 0x40, 0xde, 0x5d, 0xae, 0x22, 0x23, 0xb0, 0x03, 0x61, 0xa3, 0x96, 0x17, 0x7a, 0x9c, 0xb4, 0x10, 0xff, 0x61, 0xf2, 0x00, 0x15, 0xad]) rfl rfl hblk3 (sizeDig.trans rfl) rfl (map_bv_one _) ?_; intro w4 hblk4 ho4 hz4; have c0 : w4.cell? ⟨w2.heap.size, 0, none⟩ = some (.int .u8 186) := hblk4.at_ 0; have c1 : w4.cell? ⟨w2.heap.size, 1, none⟩ = some (.int .u8 120) := hblk4.at_ 1; have c31 : w4.cell? ⟨w2.heap.size, 31, none⟩ = some (.int .u8 173) := hblk4.at_ 31))
  have hB4 : Below w.heap.size w w4 := (hB2.trans (hb3.mono hB2.size)).trans (ho4.below (by have := hB2.size; omega) fun k hk => by have := hB2.size; omega)
  go_ret
  exact ⟨rfl, hB4⟩
end Go.Proofs.Ytmlkfkpffbbfaaa
