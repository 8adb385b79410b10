/- The walks of (*sum.Hash).Len and (*sum.Hash).Reset. -/
import Derived.Test.YtmlkfkpffbbfaaaPlayL
import Derived.Test.YtmlkfkpffbbfaaaShaSum
namespace Go.Proofs.Ytmlkfkpffbbfaaa
open Go.RowKit

theorem len_any (g : Nat) (xs : List UInt8) (w : World) (hH : HashV w g xs) :
    Calls Try.prog 24 #[.pointer (some ⟨g, 0, none⟩)] w fun e w' => e = .returned (.int .i64 (xs.length : Int)) ∧ w' = w := by
  have hgl := hH.lt
  obtain ⟨ws, begun, rest, n, hblk, hof⟩ := hH
  have hn := hof.n_eq
  have hcn := hash_at_n hblk hof.ws_len hof.rest_len
  subst hn
  clear hblk hof
  go_enter Try.func24, Try.ntmps24
  go_wp2_with fail
  go_ret
  exact ⟨rfl, rfl⟩
set_option maxRecDepth 100000 in
theorem reset_any (g : Nat) (xs : List UInt8) (w : World) (hH : HashV w g xs) :
    Calls Try.prog 25 #[.pointer (some ⟨g, 0, none⟩)] w fun e w' => e = .returned (.tuple #[]) ∧ HashV w' g [] ∧ Only (fun b => b = g) w w' := by
  have hgl := hH.lt
  obtain ⟨ws, begun, rest, n, hblk, hof⟩ := hH
  have hln := length_hash hof
  have Hblk := Lib.hid hblk
  have Hln := Lib.hid hln
  clear hblk hof hln
  go_enter Try.func25, Try.ntmps25
  go_wp2_with (first
    | (refine wpList_build rfl rfl (.agg (hashL (List.replicate 8 0) false (List.replicate 64 0) 0).toArray) (by kernel_rfl) ?_)
    | (refine wpList_atStore 51 (.tmp 4) (.tmp 3) rfl ?_; refine wp_stop ?_))
  refine ⟨?_⟩
  have hzl : (hashL (List.replicate 8 0) false (List.replicate 64 0) 0).length = 74 := rfl
  refine wpList_storeB rfl 51 (.tmp 4) (.tmp 3) rfl (hashL (List.replicate 8 0) false (List.replicate 64 0) 0) rfl (by simp [Act.eval]) Hblk.out (by rw [hzl]; exact sizeHash) (by rw [List.size_toArray, Hln.out, hzl]) (hash_one _ _ _ _) ?_
  intro w3 hblk3 ho3 hz3
  go_wp2_with fail
  refine bodyPost_end (v := .tuple #[]) (results_none rfl _ _ _) rfl ⟨rfl, ⟨_, _, _, _, hblk3, HashOf.zero⟩, ho3⟩
end Go.Proofs.Ytmlkfkpffbbfaaa
