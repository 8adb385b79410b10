/- Contracts of the reference's Form and Fold. -/
import Derived.Test.YtmmdkpnoncnjnaaMintD
import Derived.Test.YtmmdkpnoncnjnaaRefL
namespace Go.Proofs.Ytmmdkpnoncnjnaa
open Go.RowKit

theorem cast_byte (u i : Nat) : (u : Int) / 2 ^ (8 * i) % 256 = ((u / 2 ^ (8 * i) % 256 : Nat) : Int) := by
  rw [Int.natCast_emod, Int.natCast_ediv, Int.natCast_pow]; rfl

theorem refForm_small (u : Nat) (w : World) (h : u < 248) : Calls Try.prog 64 #[.int .u64 u] w (FreshB w (formL u)) := by
  have h1 : (u : Int) ≤ 247 := by omega
  have e1 : formL u = [UInt8.ofNat u] := by unfold formL; rw [if_pos h]
  have e2 : (Value.int .u8 (u : Int)) = bv (UInt8.ofNat u) := by unfold bv; rw [toNat_ofNat8, Nat.mod_eq_of_lt (by omega)]
  rw [e1]
  have E2 := Lib.hid e2
  clear e1 e2 h
  go_enter Try.func64, Try.ntmps64
  go_wp2
  go_ret
  refine ⟨_, _, rfl, ?_, (Below.refl _ _).alloc (Nat.le_refl _) _⟩
  rw [E2.out]
  exact Own.lit w _ 1 1 #[bv (UInt8.ofNat u)] (Nat.le_refl _) (by decide) rfl

set_option maxHeartbeats 1000000 in
theorem refForm_big (u : Nat) (w : World) (h : ¬ u < 248) (hu : u < 18446744073709551616) : Calls Try.prog 64 #[.int .u64 u] w (FreshB w (formL u)) := by
  have h1 : ¬ (u : Int) ≤ 247 := by omega
  have Hu := Lib.hid (show u < 2 ^ 64 from hu)
  have H0 := Lib.hid h
  clear hu h
  go_enter Try.func64, Try.ntmps64
  go_wp2_with fail
  go_loopw [3, 4] (fun v i wr => ∃ (j : Nat) (out : List UInt8) (A : Option Addr) (c : Nat), j ≤ 8 ∧ i = .int .i64 ((j : Int) - 1) ∧ v = .slice A out.length c ∧ OwnB wr w.heap.size A out.length c out ∧ Below w.heap.size w wr ∧ FormR u j out) (fun _ i _ => (intOf i + 1).toNat)
  case atStart => exact ⟨8, [], none, 0, by omega, rfl, rfl, Own.nil _ _ _ _, Below.refl _ _, FormR.start u⟩
  case round =>
    obtain ⟨j, out, A, c, hj, rfl, rfl, hown, hB, HR⟩ := hrel
    have hlen := HR.len hj
    have hbase := hB.size
    by_cases h0 : j = 0
    · subst h0
      have hlen2 : out.length = byteCnt u 8 := by
        have e := congrArg List.length (HR.fin Hu.out H0.out)
        rw [length_beBytes] at e
        exact e
      have hform : formL u = [UInt8.ofNat (247 + out.length)] ++ out := by
        unfold formL
        rw [if_neg H0.out, hlen2, ← HR.fin Hu.out H0.out]
        rfl
      have hx : Value.int .u8 (247 + (out.length : Int)) = bv (UInt8.ofNat (247 + out.length)) := by
        unfold bv; rw [toNat_ofNat8, Nat.mod_eq_of_lt (by omega)]; congr 1
      have Hform := Lib.hid hform
      have Hx := Lib.hid hx
      have hown1 : ∀ W : World, OwnB (W.alloc (.cells #[bv (UInt8.ofNat (247 + out.length))] 5)) W.heap.size (some ⟨W.heap.size, 0, none⟩) 1 1 [UInt8.ofNat (247 + out.length)] := fun W => Own.lit W _ 1 1 #[bv (UInt8.ofNat (247 + out.length))] (Nat.le_refl _) (by decide) rfl
      have Hown1 := Lib.hid hown1
      clear hx hform hlen2 hown1
      go_wp2_with (at_builtin; refine wpList_app rfl (.tmp 37) (.tmp 38) eByte rfl (base := w.heap.size) (n := 1) (c := 1) (A := some ⟨wr.heap.size, 0, none⟩) (vs := [bv (UInt8.ofNat (247 + out.length))]) rfl (by rw [Hx.out]; exact (Hown1.out wr).mono hbase) (A' := A) (m := out.length) (c' := c) (us := out.map bv) rfl ((RV.of_own hown).alloc _) (by simp) (map_bv_one _) (by unfold maxLen; omega) (by omega) (by simp; omega) (Sl.of_own hown).nil ?_; intro A2 c2 w2 hown2 hg2 hat2)
      go_ret
      rw [Hform.out]
      refine ⟨A2, c2, ?_, OwnB.app (xs := [_]) hown2 rfl rfl, (hB.alloc hbase _).grown hg2 (by simp; omega) fun k hk => ?_⟩
      · rw [List.length_append]; rfl
      · simp at hk; omega
    · obtain ⟨i, rfl⟩ : ∃ i : Nat, j = i + 1 := ⟨j - 1, by omega⟩
      have e : (((i + 1 : Nat) : Int) - 1) = (i : Int) := by omega
      rw [e]
      clear e h0
      have hx : Value.int .u8 ((u : Int) / 2 ^ (8 * i) % 256) = bv (UInt8.ofNat (u / 2 ^ (8 * i))) := by
        unfold bv; rw [toNat_ofNat8]; congr 1
      have Hx := Lib.hid hx
      clear hx
      by_cases ho : out = []
      · subst ho
        by_cases hz : u / 2 ^ (8 * i) % 256 = 0
        · have hzb : ((u : Int) / 2 ^ (8 * i) % 256 != 0) = false := by
            rw [bne_eq_false_iff_eq, cast_byte, hz]; rfl
          have HR2 := HR.skip Hu.out hz
          clear hz
          go_wp2_with fail
          exact ⟨⟨i, [], A, c, by omega, rfl, rfl, hown, hB, HR2⟩, by simp [intOf]⟩
        · have hzb : ((u : Int) / 2 ^ (8 * i) % 256 != 0) = true := by
            rw [bne_iff_ne, cast_byte]; intro h; exact hz (Int.natCast_inj.1 h)
          have HR2 := HR.first hz
          clear hz
          go_wp2_with (at_builtin; refine wpList_app rfl (.tmp 28) (.tmp 30) eByte rfl (base := w.heap.size) (n := 0) (c := c) (A := A) (vs := []) rfl (hown.alloc _) (A' := some ⟨wr.heap.size, 0, none⟩) (m := 1) (c' := 1) (us := [bv (UInt8.ofNat (u / 2 ^ (8 * i)))]) rfl (by rw [← Hx.out]; exact RV.of_blk (Blk.new wr _ #[_])) rfl (map_bv_one [_]) (by decide) (by decide) (by simp; omega) (by simp) ?_; intro A2 c2 w2 hown2 hg2 hat2)
          have hB2 : Below w.heap.size w w2 := (hB.alloc hbase _).grown hg2 (by simp; omega) fun k hk => (hown.row k hk).1
          exact ⟨⟨i, [UInt8.ofNat (u / 2 ^ (8 * i))], A2, c2, by omega, rfl, rfl, hown2, hB2, HR2⟩, by simp [intOf]⟩
      · have hpos : (0 : Int) < out.length := by have := List.length_pos_iff.2 ho; omega
        have HR2 := HR.next ho
        go_wp2_with (at_builtin; refine wpList_app rfl (.tmp 28) (.tmp 30) eByte rfl (base := w.heap.size) (n := out.length) (c := c) (A := A) (vs := out.map bv) rfl (hown.alloc _) (A' := some ⟨wr.heap.size, 0, none⟩) (m := 1) (c' := 1) (us := [bv (UInt8.ofNat (u / 2 ^ (8 * i)))]) rfl (by rw [← Hx.out]; exact RV.of_blk (Blk.new wr _ #[_])) rfl (map_bv_one [_]) (by unfold maxLen; omega) (by omega) (by simp; omega) (by simp) ?_; intro A2 c2 w2 hown2 hg2 hat2)
        have hB2 : Below w.heap.size w w2 := (hB.alloc hbase _).grown hg2 (by simp; omega) fun k hk => (hown.row k hk).1
        exact ⟨⟨i, out ++ [UInt8.ofNat (u / 2 ^ (8 * i))], A2, c2, by omega, rfl, by rw [List.length_append]; exact rfl, OwnB.app (ys := [_]) hown2 rfl rfl, hB2, HR2⟩, by simp [intOf]⟩

theorem refForm_any (u : Nat) (w : World) (hu : u < 18446744073709551616) : Calls Try.prog 64 #[.int .u64 u] w (FreshB w (formL u)) := by
  by_cases h : u < 248
  · exact refForm_small u w h
  · exact refForm_big u w h hu

theorem fold_any (n : Int) (w : World) (h1 : -9223372036854775808 ≤ n) (h2 : n ≤ 9223372036854775807) :
    Calls Try.prog 65 #[.int .i64 n] w fun e w' => e = .returned (.int .u64 (foldN n)) ∧ w = w' := by
  by_cases h : n < 0
  · have e : (foldN n : Int) = 2 * -(n + 1) + 1 := by unfold foldN; rw [if_pos h]; omega
    rw [e]
    clear e
    go_enter Try.func65, Try.ntmps65
    go_wp2_with fail
    go_ret
    exact ⟨rfl, rfl⟩
  · have e : (foldN n : Int) = 2 * n := by unfold foldN; rw [if_neg h]; omega
    rw [e]
    clear e
    go_enter Try.func65, Try.ntmps65
    go_wp2_with fail
    go_ret
    exact ⟨rfl, rfl⟩
end Go.Proofs.Ytmmdkpnoncnjnaa
