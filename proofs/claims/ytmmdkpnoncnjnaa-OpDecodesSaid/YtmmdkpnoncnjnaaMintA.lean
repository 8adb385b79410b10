/- Contracts of package mint: New, form. -/
import Derived.Test.YtmmdkpnoncnjnaaFacts
import Derived.Test.YtmmdkpnoncnjnaaNums
namespace Go.Proofs.Ytmmdkpnoncnjnaa
open Go.RowKit

theorem new_any (w : World) :
    Calls Try.prog 37 #[] w fun e w' => e = .returned (.pointer (some ⟨w.heap.size, 0, none⟩)) ∧ w' = w.alloc (.cells #[.slice none 0 0, .int .i64 0] 94) := by
  go_enter Try.func37, Try.ntmps37
  go_wp2
  go_ret
  exact ⟨rfl, rfl⟩

theorem form_small (u : Nat) (w : World) (h : u < 248) :
    Calls Try.prog 62 #[.int .u64 u] w fun e w' => ∃ A c, e = .returned (.slice A (formL u).length c) ∧ OwnB w' w.heap.size A (formL u).length c (formL u) ∧ Below w.heap.size w w' := by
  have h1 : (u : Int) < 248 := by omega
  go_enter Try.func62, Try.ntmps62
  go_wp2
  go_ret
  have e1 : formL u = [UInt8.ofNat u] := by unfold formL; rw [if_pos h]
  have e2 : (Value.int .u8 (u : Int)) = bv (UInt8.ofNat u) := by unfold bv; rw [toNat_ofNat8, Nat.mod_eq_of_lt (by omega)]
  rw [e1]
  refine ⟨_, _, rfl, ?_, (Below.refl _ _).alloc (Nat.le_refl _) _⟩
  rw [e2]
  exact Own.lit w _ 1 1 #[bv (UInt8.ofNat u)] (Nat.le_refl _) (by decide) rfl

theorem form_big (u : Nat) (w : World) (h : ¬ u < 248) (hu : u < 18446744073709551616) :
    Calls Try.prog 62 #[.int .u64 u] w fun e w' => ∃ A c, e = .returned (.slice A (formL u).length c) ∧ OwnB w' w.heap.size A (formL u).length c (formL u) ∧ Below w.heap.size w w' := by
  have h1 : ¬ (u : Int) < 248 := by omega
  have Hu := Lib.hid hu
  clear hu
  go_enter Try.func62, Try.ntmps62
  go_wp2
  go_loop [3] (fun i => ∃ k : Nat, 1 ≤ k ∧ k ≤ 8 ∧ i = .int .i64 k ∧ Hid (byteCnt u 8 = byteCnt u k)) (fun i => (intOf i).toNat)
  case atStart => exact ⟨8, by omega, by omega, rfl, rfl⟩
  case round =>
    obtain ⟨k, hk, hk2, rfl, HC⟩ := hrel
    by_cases h0 : u / 2 ^ (8 * (k - 1)) = 0
    · have hd : ((u : Int) / 2 ^ (8 * (k - 1)) == 0) = true := by rw [beq_iff_eq]; exact_mod_cast h0
      have hk1 : 2 ≤ k := by
        rcases Nat.lt_or_ge k 2 with hlt | hge
        · obtain rfl : k = 1 := by omega
          simp at h0
          omega
        · exact hge
      have HC' : Hid (byteCnt u 8 = byteCnt u (k - 1)) := by
        have e := byteCnt_step u (k - 1) h0
        rw [Nat.sub_add_cancel hk] at e
        exact HC.out.trans e
      clear h0 HC
      go_wp2
      exact ⟨⟨k - 1, by omega, by omega, by go_num, HC'⟩, by simp [intOf]; omega⟩
    · have hd : ((u : Int) / 2 ^ (8 * (k - 1)) == 0) = false := by rw [beq_eq_false_iff_ne]; exact_mod_cast h0
      have HC' : Hid (byteCnt u 8 = k) := by
        have e := byteCnt_stop u (k - 1) h0
        rw [Nat.sub_add_cancel hk] at e
        exact HC.out.trans e
      clear h0 HC
      go_wp2
      clear hd
      go_loopw [4, 5] (fun v i wr => ∃ (j : Nat) (pre : List UInt8) (A : Option Addr) (c : Nat), j ≤ k ∧ i = .int .i64 ((j : Int) - 1) ∧ v = .slice A pre.length c ∧ OwnB wr w.heap.size A pre.length c pre ∧ Below w.heap.size w wr ∧ Hid (pre ++ beBytes u j = formL u)) (fun _ i _ => (intOf i + 1).toNat)
      case atStart =>
        refine ⟨k, [UInt8.ofNat (247 + k)], _, _, Nat.le_refl _, rfl, rfl, ?_, (Below.refl _ _).alloc (Nat.le_refl _) _, ?_⟩
        · have e2 : (Value.int .u8 (247 + (k : Int))) = bv (UInt8.ofNat (247 + k)) := by
            unfold bv; rw [toNat_ofNat8, Nat.mod_eq_of_lt (by omega)]; congr 1
          rw [e2]
          exact Own.lit w _ 1 1 #[bv (UInt8.ofNat (247 + k))] (Nat.le_refl _) (by decide) rfl
        · show [UInt8.ofNat (247 + k)] ++ beBytes u k = formL u
          unfold formL
          rw [if_neg h, HC'.out]
          rfl
      case round =>
        obtain ⟨j, pre, A, c, hj, rfl, rfl, hown, hB, HP⟩ := hrel
        have hpl : pre.length + j ≤ 9 := by
          have e := congrArg List.length HP.out
          have := formL_le u
          rw [List.length_append, length_beBytes] at e
          omega
        by_cases h0 : j = 0
        · subst h0
          go_wp2
          go_ret
          have HP' : pre = formL u := by have := HP.out; simpa [beBytes] using this
          subst HP'
          exact ⟨A, c, rfl, hown, hB⟩
        · obtain ⟨i, rfl⟩ : ∃ i : Nat, j = i + 1 := ⟨j - 1, by omega⟩
          have e : (((i + 1 : Nat) : Int) - 1) = (i : Int) := by omega
          rw [e]
          clear e h0
          have hx : Value.int .u8 ((u : Int) / 2 ^ (8 * i) % 256) = bv (UInt8.ofNat (u / 2 ^ (8 * i))) := by
            unfold bv; rw [toNat_ofNat8]; congr 1
          have Hx := Lib.hid hx
          clear hx
          go_wp2_with (at_builtin; refine wpList_app rfl (.tmp 29) (.tmp 35) eByte rfl (base := w.heap.size) (n := pre.length) (c := c) (A := A) (vs := pre.map bv) rfl (hown.alloc _) (A' := some ⟨wr.heap.size, 0, none⟩) (m := 1) (c' := 1) (us := [bv (UInt8.ofNat (u / 2 ^ (8 * i)))]) rfl (by rw [← Hx.out]; exact RV.of_blk (Blk.new wr _ #[_])) rfl (map_bv_one [_]) (by unfold maxLen; omega) (by omega) (by have := hB.size; simp only [World.size_alloc]; omega) (by simp) ?_; intro A2 c2 w2 hown2 hg2 hat2)
          have hB2 : Below w.heap.size w w2 := (hB.alloc hB.size _).grown hg2 (by have := hB.size; simp only [World.size_alloc]; omega) fun k hk => (hown.row k hk).1
          exact ⟨⟨i, pre ++ [UInt8.ofNat (u / 2 ^ (8 * i))], A2, c2, by omega, rfl, by rw [List.length_append]; exact rfl, OwnB.app (ys := [_]) hown2 rfl rfl, hB2, by
            have e := HP.out
            show pre ++ [_] ++ beBytes u i = formL u
            rw [← e, List.append_assoc]; exact rfl⟩, by simp [intOf]⟩

/-- A number's form, made anew. -/
theorem form_any (u : Nat) (w : World) (hu : u < 18446744073709551616) :
    Calls Try.prog 62 #[.int .u64 u] w fun e w' => ∃ A c, e = .returned (.slice A (formL u).length c) ∧ OwnB w' w.heap.size A (formL u).length c (formL u) ∧ Below w.heap.size w w' := by
  by_cases h : u < 248
  · exact form_small u w h
  · exact form_big u w h hu
end Go.Proofs.Ytmmdkpnoncnjnaa
