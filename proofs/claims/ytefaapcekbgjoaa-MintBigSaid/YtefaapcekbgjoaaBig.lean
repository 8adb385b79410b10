/- The law MintBig, its walk. -/
import Derived.Test.YtefaapcekbgjoaaBigA
import Derived.Test.YtefaapcekbgjoaaBaseB
namespace Go.Proofs.Ytefaapcekbgjoaa
open Go.RowKit

def fillL (F : List UInt8) (x : UInt8) (k : Nat) : List Value := List.replicate k (bv x) ++ List.replicate (F.length - k) (bv 0)
theorem length_fillL (F : List UInt8) (x : UInt8) (k : Nat) (h : k ≤ F.length) : (fillL F x k).length = F.length := by
  simp only [fillL, List.length_append, List.length_replicate]; omega
theorem set_fillL (F : List UInt8) (x : UInt8) (k : Nat) (h : k < F.length) : (fillL F x k).set k (bv x) = fillL F x (k + 1) := by
  obtain ⟨m, hm⟩ : ∃ m, F.length - k = m + 1 := ⟨F.length - k - 1, by omega⟩
  have hm' : F.length - (k + 1) = m := by omega
  unfold fillL
  rw [hm, hm', List.set_append_right _ _ (by simp)]
  simp only [List.length_replicate, Nat.sub_self, List.replicate_succ, List.set_cons_zero]
  have e : List.replicate k (bv x) ++ [bv x] = bv x :: List.replicate k (bv x) := by rw [← List.replicate_succ', List.replicate_succ]
  rw [← e, List.append_assoc]
  rfl

theorem putL_long (D ys : List UInt8) (hD : D.length = 4194304) (hy : 0 < ys.length) : putL D 0 ys = (D, 2) := by
  unfold putL
  rw [if_pos rfl, if_neg (by omega)]
theorem putL_two (D ys : List UInt8) : putL D 2 ys = (D, 2) := by
  unfold putL
  rw [if_neg (by decide)]

set_option maxRecDepth 100000 in
set_option maxHeartbeats 4000000 in
theorem big_walk (cut more : Int) (x : UInt8) (w : World) :
    Calls Try.prog 5 #[.int .i64 cut, .int .i64 more, .int .u8 x.toNat] w fun e w' => e = .returned (.bool true) ∧ Below w.heap.size w w' := by
  obtain ⟨n, hn, hn4⟩ : ∃ n : Nat, cut % 4194305 = n ∧ n ≤ 4194304 := ⟨(cut % 4194305).toNat, by omega, by omega⟩
  obtain ⟨F, hFn, hF0⟩ : ∃ F : List UInt8, F.length = n ∧ F = List.replicate F.length x := ⟨List.replicate n x, by simp, by simp⟩
  subst hFn
  obtain ⟨R, hR, hR0⟩ : ∃ R : List UInt8, F.length + R.length = 4194304 ∧ R = List.replicate R.length 0 := ⟨List.replicate (4194304 - F.length) 0, by simp; omega, by simp⟩
  have HF := Lib.hid hF0
  have HR := Lib.hid hR0
  have Hn := Lib.hid hn
  clear hF0 hR0 hn
  go_enter Try.func5, Try.ntmps5
  go_wp2_with fail
  refine (round_any cut 4194305 w (by omega) (by omega)).mono ?_
  rintro e w0 ⟨rfl, h0⟩
  rw [h0, Hn.out]
  clear h0 w0 Hn
  go_wp2_with fail
  refine (new_any _).mono ?_
  rintro e w1 ⟨rfl, rfl⟩
  have hw1 := new_wr w
  obtain ⟨w1, ew1⟩ : ∃ w1, w1 = w.alloc (.cells #[.slice none 0 0, .int .i64 0] 94) := ⟨_, rfl⟩
  have hz1 : w1.heap.size = w.heap.size + 1 := by rw [ew1]; simp
  have hB1 : Below w.heap.size w w1 := by rw [ew1]; exact (Below.refl _ _).alloc (Nat.le_refl _) _
  rw [← ew1] at hw1 ⊢
  clear ew1
  go_wp2_with (first
    | (refine wpList_make1 rfl (.tmp 21) (.tmp 21) rfl Try.underlying22 byte_info rfl .i64 .i64 _ F.length rfl rfl (by simp) (by omega) (by unfold maxLen; omega) ?_; intro w2 hblk2 hb2 hz2)
    | (refine wpList_make1 rfl (.tmp 24) (.tmp 24) rfl Try.underlying22 byte_info rfl .i64 .i64 _ R.length rfl rfl (by omega) (by omega) (by unfold maxLen; omega) ?_; intro w3 hblk3 hb3 hz3))
  have hg2 : w2.heap.size = w.heap.size + 1 + 1 := by rw [hz2, hz1]
  have hg3 : w3.heap.size = w.heap.size + 3 := by rw [hz3, hg2]
  rw [hz1] at hblk2
  rw [hg2] at hblk3
  have hB3 : Below w1.heap.size w1 w3 := hb2.trans (hb3.mono hb2.size)
  have hblk2' : Blk w3 (w.heap.size + 1) 5 (fillL F x 0).toArray := by
    have h := hblk2.below hb3 (by omega)
    simpa [fillL, bv] using h
  have HR3 := Lib.hid hblk3
  clear hblk2 hblk3
  go_loopw [11] (fun i wr => ∃ k : Nat, k ≤ F.length ∧ i = .int .i64 k ∧ Blk wr (w.heap.size + 1) 5 (fillL F x k).toArray ∧ Only (fun j => j = w.heap.size + 1) w3 wr) (fun i _ => F.length - (intOf i).toNat)
  case atStart => exact ⟨0, by omega, rfl, hblk2', Only.refl _ _⟩
  case round =>
    obtain ⟨k, hk, rfl, hblk, hO⟩ := hrel
    by_cases hlt : k < F.length
    · obtain ⟨v, hc⟩ := hblk.some (i := k) (by rw [length_fillL F x k hk]; omega)
      have hf := hblk.frozen k
      have hbs := hblk.setL k (bv x)
      rw [set_fillL F x k hlt] at hbs
      have Hb2 := Lib.hid hbs
      clear hbs
      go_wp2
      exact ⟨⟨k + 1, by omega, by go_num, Hb2.out, hO.setCell (.inl rfl) _⟩, by simp [intOf]; omega⟩
    · obtain rfl : k = F.length := by omega
      have hsF : Sl wr ⟨some ⟨w.heap.size + 1, 0, none⟩, F.length, F⟩ := by
        refine ⟨?_, fun h => by cases h⟩
        have h := RV.of_blk hblk
        have e : (fillL F x F.length) = F.map bv := by
          rw [HF.out]
          simp [fillL]
        simp only [e] at h
        exact h
      have hsR : Sl wr ⟨some ⟨w.heap.size + 1 + 1, 0, none⟩, R.length, R⟩ := by
        refine ⟨?_, fun h => by cases h⟩
        have h := RV.of_blk (HR3.out.only hO (by omega))
        have e : List.replicate R.length (Value.int .u8 0) = R.map bv := by
          rw [HR.out]
          simp [bv]
        simp only [e] at h
        exact h
      have hgr : w.heap.size + 3 ≤ wr.heap.size := by have := hO.size; omega
      have hB4 : Below w1.heap.size w1 wr := hB3.trans (hO.below hB3.size (fun k hk => by omega))
      have hW4 := hw1.below hB4
      clear hblk hO HR3 hw1 hblk2'
      go_wp2_with fail
      refine (raw_any w.heap.size w.heap.size none 0 [] 0 ⟨some ⟨w.heap.size + 1, 0, none⟩, F.length, F⟩ wr hW4 hsF (by simp) (by show F.length ≤ _; omega) (fun b o _ hA => by cases hA; rintro (h | h); omega; cases h) (by omega)).mono ?_
      rintro e w5 ⟨rfl, hpost⟩
      rw [show putL [] 0 F = (F, 0) from by unfold putL; rw [if_pos rfl, if_pos (by simp; omega)]; rfl] at hpost
      obtain ⟨A5, c5, hW5, hA5, hO5⟩ := hpost
      have HA5 : Hid (∀ b, A5.map (·.block) = some b → wr.heap.size ≤ b) := fun b hb => (hA5 b hb).elim (fun h => by cases h) id
      have hsF5 := hsF.only hO5 (fun b o _ hA => by cases hA; rintro (h | h); omega; cases h)
      have hsR5 := hsR.only hO5 (fun b o _ hA => by cases hA; rintro (h | h); omega; cases h)
      clear hA5 hsF hsR hW4
      go_wp2_with fail
      refine (raw_any w.heap.size w.heap.size A5 c5 F 0 ⟨some ⟨w.heap.size + 1 + 1, 0, none⟩, R.length, R⟩ w5 hW5 hsR5 (by omega) (by show R.length ≤ _; omega) (fun b o _ hA => by
        cases hA
        rintro (h | h)
        · omega
        · have := HA5.out _ h; omega) (by have := hO5.size; omega)).mono ?_
      rintro e w6 ⟨rfl, hpost⟩
      obtain ⟨D, hD⟩ : ∃ D : List UInt8, D = F ++ R := ⟨_, rfl⟩
      have hDl : D.length = 4194304 := by rw [hD, List.length_append]; exact hR
      rw [show putL F 0 R = (D, 0) from by unfold putL; rw [if_pos rfl, if_pos (by omega), hD]] at hpost
      obtain ⟨A6, c6, hW6, hA6, hO6⟩ := hpost
      have hs6 := hO6.size
      have hs5 := hO5.size
      have HA6 : Hid (∀ b, A6.map (·.block) = some b → wr.heap.size ≤ b) := fun b hb => (hA6 b hb).elim (fun h => HA5.out b h) (fun h => Nat.le_trans hs5 h)
      have hB40 : Below w.heap.size w wr := hB1.trans (hB4.mono hB1.size)
      have hB6 : Below w.heap.size w w6 := (hB40.trans (hO5.below hB40.size fun k hk => by rintro (h | h); omega; cases h)).trans (hO6.below (Nat.le_trans hB40.size hs5) fun k hk => by
        rintro (h | h)
        · omega
        · have := HA5.out _ h; omega)
      have hsF6 := hsF5.only hO6 (fun b o _ hA => by
        cases hA
        rintro (h | h)
        · omega
        · have := HA5.out _ h; omega)
      have HD := Lib.hid hD
      have HDl := Lib.hid hDl
      clear hA6 hsF5 hsR5 hW5 hO5 hO6 hD hDl HA5
      go_wp2_with fail
      refine (done_any w.heap.size w.heap.size A6 c6 D 0 w6 hW6 (by have := HDl.out; omega)).mono ?_
      rintro e w7 ⟨A7, c7, rfl, hown7, hb7⟩
      rw [show doneL D 0 = D from rfl] at hown7 ⊢
      have hr7 : RV w7 A7 (D.map bv) := (Sl.of_own hown7).rv
      obtain ⟨b, off, rfl, hbl, hcs⟩ := hr7.at_ (by rw [List.length_map, HDl.out]; omega)
      obtain ⟨-, -, rfl⟩ := hown7.lt b off rfl
      have hcF : ∀ j, j < F.length → w7.cell? ⟨b, j, none⟩ = some (.int .u8 x.toNat) := fun j hj => by
        have h := hcs j (bv x) (by
          rw [HD.out, List.map_append, List.getElem?_append_left (by simpa using hj), HF.out]
          simp [hj])
        rwa [Nat.zero_add] at h
      have hcR : ∀ j, F.length ≤ j → j < 4194304 → w7.cell? ⟨b, j, none⟩ = some (.int .u8 0) := fun j hj hj2 => by
        have h := hcs j (bv 0) (by
          rw [HD.out, List.map_append, List.getElem?_append_right (by simpa using hj), HR.out, List.getElem?_map, List.getElem?_replicate, List.length_map, if_pos (by omega)]
          rfl)
        rw [Nat.zero_add] at h
        exact h
      rw [HDl.out]
      have hW7 := hW6.below hb7
      have hsF7 := hsF6.below hb7
      have hB7 := hB6.trans (hb7.mono hB6.size)
      have hs7 := hb7.size
      have HcF := Lib.hid hcF
      have HcR := Lib.hid hcR
      clear hcF hcR hcs hr7 hown7 hW6 hsF6
      have hcases : F.length = 0 ∨ (0 < F.length ∧ F.length < 4194304) ∨ F.length = 4194304 := by omega
      rcases hcases with h0 | ⟨h0, h1⟩ | h0
      · obtain rfl : F = [] := List.length_eq_zero_iff.1 h0
        have hc2 := HcR.out 0 (by simp) (by omega)
        have hc3 := HcR.out 4194303 (by simp) (by omega)
        rw [show ([] : List UInt8).length = 0 from rfl]
        have Hs := Lib.hid hsF7
        clear h0 hn4 hsF7 hR hk hlt
        go_wp2_with fail
        refine (round_any more 5 w7 (by omega) (by omega)).mono ?_
        rintro e w8 ⟨rfl, h8⟩
        rw [h8]
        clear h8 w8
        have hm : more % 5 = 0 ∨ more % 5 = 1 ∨ more % 5 = 2 ∨ more % 5 = 3 ∨ more % 5 = 4 := by omega
        rcases hm with hm | hm | hm | hm | hm <;> rw [hm] <;> clear hm
        · go_wp2_with fail
          refine (num_any w.heap.size w.heap.size A6 c6 D 0 7 w7 hW7 (by omega) (by have := HDl.out; omega) (by omega)).mono ?_
          rintro e w8 ⟨rfl, hpost⟩
          rw [show numL D 0 7 = (D, 2) from putL_long D _ HDl.out (by decide)] at hpost
          obtain ⟨A8, c8, hW8, hA8, hO8⟩ := hpost
          have HA8 : Hid (∀ b, A8.map (·.block) = some b → w.heap.size ≤ b) := fun b hb => (hA8 b hb).elim (fun h => by have := HA6.out b h; omega) (fun h => by omega)
          have hB8 : Below w.heap.size w w8 := hB7.trans (hO8.below hB7.size fun k hk => by
            rintro (h | h)
            · omega
            · have := HA6.out _ h; omega)
          have hs8 := hO8.size
          clear hA8 hO8
          go_wp2_with fail
          refine (done_any w.heap.size w.heap.size A8 c8 D 2 w8 hW8 (by have := HDl.out; omega)).mono ?_
          rintro e w9 ⟨A9, c9, rfl, -, hb9⟩
          rw [show (doneL D 2).length = 0 from rfl]
          have hW9 := hW8.below hb9
          have hB9 := hB8.trans (hb9.mono hB8.size)
          have hs9 := hb9.size
          clear hW8 hb9
          go_wp2_with fail
          refine (num_any w.heap.size w.heap.size A8 c8 D 2 (-1) w9 hW9 (by omega) (by have := HDl.out; omega) (by omega)).mono ?_
          rintro e w10 ⟨rfl, hpost⟩
          rw [show numL D 2 (-1) = (D, 2) from rfl] at hpost
          obtain ⟨A10, c10, hW10, hA10, hO10⟩ := hpost
          have hB10 : Below w.heap.size w w10 := hB9.trans (hO10.below hB9.size fun k hk => by
            rintro (h | h)
            · omega
            · have := HA8.out _ h; omega)
          clear hA10 hO10 hW9
          go_wp2_with fail
          refine (done_any w.heap.size w.heap.size A10 c10 D 2 w10 hW10 (by have := HDl.out; omega)).mono ?_
          rintro e w11 ⟨A11, c11, rfl, -, hb11⟩
          rw [show (doneL D 2).length = 0 from rfl]
          have hB11 := hB10.trans (hb11.mono hB10.size)
          clear hW10 hb11
          go_wp2_with fail
          refine (head_any w11).mono ?_
          rintro e w12 ⟨rfl, hb12⟩
          go_wp2_with fail
          go_ret
          exact ⟨rfl, hB11.trans (hb12.mono hB11.size)⟩
        · go_wp2_with fail
          refine (bool_any w.heap.size w.heap.size A6 c6 D 0 true w7 hW7 (by have := HDl.out; omega) (by omega)).mono ?_
          rintro e w8 ⟨rfl, hpost⟩
          rw [show putL D 0 (boolL true) = (D, 2) from putL_long D _ HDl.out (by decide)] at hpost
          obtain ⟨A8, c8, hW8, hA8, hO8⟩ := hpost
          have HA8 : Hid (∀ b, A8.map (·.block) = some b → w.heap.size ≤ b) := fun b hb => (hA8 b hb).elim (fun h => by have := HA6.out b h; omega) (fun h => by omega)
          have hB8 : Below w.heap.size w w8 := hB7.trans (hO8.below hB7.size fun k hk => by
            rintro (h | h)
            · omega
            · have := HA6.out _ h; omega)
          have hs8 := hO8.size
          clear hA8 hO8
          go_wp2_with fail
          refine (done_any w.heap.size w.heap.size A8 c8 D 2 w8 hW8 (by have := HDl.out; omega)).mono ?_
          rintro e w9 ⟨A9, c9, rfl, -, hb9⟩
          rw [show (doneL D 2).length = 0 from rfl]
          have hW9 := hW8.below hb9
          have hB9 := hB8.trans (hb9.mono hB8.size)
          have hs9 := hb9.size
          clear hW8 hb9
          go_wp2_with fail
          refine (num_any w.heap.size w.heap.size A8 c8 D 2 (-1) w9 hW9 (by omega) (by have := HDl.out; omega) (by omega)).mono ?_
          rintro e w10 ⟨rfl, hpost⟩
          rw [show numL D 2 (-1) = (D, 2) from rfl] at hpost
          obtain ⟨A10, c10, hW10, hA10, hO10⟩ := hpost
          have hB10 : Below w.heap.size w w10 := hB9.trans (hO10.below hB9.size fun k hk => by
            rintro (h | h)
            · omega
            · have := HA8.out _ h; omega)
          clear hA10 hO10 hW9
          go_wp2_with fail
          refine (done_any w.heap.size w.heap.size A10 c10 D 2 w10 hW10 (by have := HDl.out; omega)).mono ?_
          rintro e w11 ⟨A11, c11, rfl, -, hb11⟩
          rw [show (doneL D 2).length = 0 from rfl]
          have hB11 := hB10.trans (hb11.mono hB10.size)
          clear hW10 hb11
          go_wp2_with fail
          refine (head_any w11).mono ?_
          rintro e w12 ⟨rfl, hb12⟩
          go_wp2_with fail
          go_ret
          exact ⟨rfl, hB11.trans (hb12.mono hB11.size)⟩
        · go_wp2_with fail
          refine (raw_any w.heap.size w.heap.size A6 c6 D 0 ⟨some ⟨w.heap.size + 1, 0, none⟩, 0, []⟩ w7 hW7 Hs.out (by have := HDl.out; omega) (by show List.length _ ≤ _; simp) (fun b o _ hA => by cases hA; rintro (h | h); omega; have := HA6.out _ h; omega) (by omega)).mono ?_
          rintro e w8 ⟨rfl, hpost⟩
          rw [show putL D 0 [] = (D, 0) from by unfold putL; rw [if_pos rfl, if_pos (by have := HDl.out; simp; omega), List.append_nil]] at hpost
          obtain ⟨A8, c8, hW8, hA8, hO8⟩ := hpost
          have HA8 : Hid (∀ b, A8.map (·.block) = some b → w.heap.size ≤ b) := fun b hb => (hA8 b hb).elim (fun h => by have := HA6.out b h; omega) (fun h => by omega)
          have hB8 : Below w.heap.size w w8 := hB7.trans (hO8.below hB7.size fun k hk => by
            rintro (h | h)
            · omega
            · have := HA6.out _ h; omega)
          have hs8 := hO8.size
          clear hA8 hO8
          go_wp2_with fail
          refine (text_any w.heap.size w.heap.size A8 c8 D 0 ⟨#[]⟩ w8 hW8 (by have := HDl.out; omega) (by decide) (by omega)).mono ?_
          rintro e w8' ⟨rfl, hpost⟩
          rw [show putL D 0 (formL (ByteArray.mk #[]).size ++ (ByteArray.mk #[]).data.toList) = (D, 2) from putL_long D _ HDl.out (by decide)] at hpost
          obtain ⟨A8', c8', hW8', hA8', hO8'⟩ := hpost
          have HA8' : Hid (∀ b, A8'.map (·.block) = some b → w.heap.size ≤ b) := fun b hb => (hA8' b hb).elim (fun h => HA8.out b h) (fun h => by omega)
          have hB8' : Below w.heap.size w w8' := hB8.trans (hO8'.below hB8.size fun k hk => by
            rintro (h | h)
            · omega
            · have := HA8.out _ h; omega)
          have hs8' := hO8'.size
          clear hA8' hO8' hW8 HA8 hB8 
          revert A8' c8' w8'
          intro w8 A8 c8 hW8 HA8 hB8 hs8
          go_wp2_with fail
          refine (done_any w.heap.size w.heap.size A8 c8 D 2 w8 hW8 (by have := HDl.out; omega)).mono ?_
          rintro e w9 ⟨A9, c9, rfl, -, hb9⟩
          rw [show (doneL D 2).length = 0 from rfl]
          have hW9 := hW8.below hb9
          have hB9 := hB8.trans (hb9.mono hB8.size)
          have hs9 := hb9.size
          clear hW8 hb9
          go_wp2_with fail
          refine (num_any w.heap.size w.heap.size A8 c8 D 2 (-1) w9 hW9 (by omega) (by have := HDl.out; omega) (by omega)).mono ?_
          rintro e w10 ⟨rfl, hpost⟩
          rw [show numL D 2 (-1) = (D, 2) from rfl] at hpost
          obtain ⟨A10, c10, hW10, hA10, hO10⟩ := hpost
          have hB10 : Below w.heap.size w w10 := hB9.trans (hO10.below hB9.size fun k hk => by
            rintro (h | h)
            · omega
            · have := HA8.out _ h; omega)
          clear hA10 hO10 hW9
          go_wp2_with fail
          refine (done_any w.heap.size w.heap.size A10 c10 D 2 w10 hW10 (by have := HDl.out; omega)).mono ?_
          rintro e w11 ⟨A11, c11, rfl, -, hb11⟩
          rw [show (doneL D 2).length = 0 from rfl]
          have hB11 := hB10.trans (hb11.mono hB10.size)
          clear hW10 hb11
          go_wp2_with fail
          refine (head_any w11).mono ?_
          rintro e w12 ⟨rfl, hb12⟩
          go_wp2_with fail
          go_ret
          exact ⟨rfl, hB11.trans (hb12.mono hB11.size)⟩
        · go_wp2_with fail
          refine (int_any w.heap.size w.heap.size A6 c6 D 0 (-1) w7 hW7 (by omega) (by omega) (by have := HDl.out; omega) (by omega)).mono ?_
          rintro e w8 ⟨rfl, hpost⟩
          rw [show putL D 0 (formL (foldN (-1))) = (D, 2) from putL_long D _ HDl.out (by decide)] at hpost
          obtain ⟨A8, c8, hW8, hA8, hO8⟩ := hpost
          have HA8 : Hid (∀ b, A8.map (·.block) = some b → w.heap.size ≤ b) := fun b hb => (hA8 b hb).elim (fun h => by have := HA6.out b h; omega) (fun h => by omega)
          have hB8 : Below w.heap.size w w8 := hB7.trans (hO8.below hB7.size fun k hk => by
            rintro (h | h)
            · omega
            · have := HA6.out _ h; omega)
          have hs8 := hO8.size
          clear hA8 hO8
          go_wp2_with fail
          refine (done_any w.heap.size w.heap.size A8 c8 D 2 w8 hW8 (by have := HDl.out; omega)).mono ?_
          rintro e w9 ⟨A9, c9, rfl, -, hb9⟩
          rw [show (doneL D 2).length = 0 from rfl]
          have hW9 := hW8.below hb9
          have hB9 := hB8.trans (hb9.mono hB8.size)
          have hs9 := hb9.size
          clear hW8 hb9
          go_wp2_with fail
          refine (num_any w.heap.size w.heap.size A8 c8 D 2 (-1) w9 hW9 (by omega) (by have := HDl.out; omega) (by omega)).mono ?_
          rintro e w10 ⟨rfl, hpost⟩
          rw [show numL D 2 (-1) = (D, 2) from rfl] at hpost
          obtain ⟨A10, c10, hW10, hA10, hO10⟩ := hpost
          have hB10 : Below w.heap.size w w10 := hB9.trans (hO10.below hB9.size fun k hk => by
            rintro (h | h)
            · omega
            · have := HA8.out _ h; omega)
          clear hA10 hO10 hW9
          go_wp2_with fail
          refine (done_any w.heap.size w.heap.size A10 c10 D 2 w10 hW10 (by have := HDl.out; omega)).mono ?_
          rintro e w11 ⟨A11, c11, rfl, -, hb11⟩
          rw [show (doneL D 2).length = 0 from rfl]
          have hB11 := hB10.trans (hb11.mono hB10.size)
          clear hW10 hb11
          go_wp2_with fail
          refine (head_any w11).mono ?_
          rintro e w12 ⟨rfl, hb12⟩
          go_wp2_with fail
          go_ret
          exact ⟨rfl, hB11.trans (hb12.mono hB11.size)⟩
        · go_wp2_with fail
          refine (bytes_any w.heap.size w.heap.size A6 c6 D 0 ⟨none, 0, []⟩ w7 hW7 ⟨RV.nil _ _, fun _ => ⟨rfl, rfl⟩⟩ (by have := HDl.out; omega) (by simp) (fun b o _ hA => by cases hA) (by omega)).mono ?_
          rintro e w8 ⟨rfl, hpost⟩
          rw [show putL D 0 (formL ([] : List UInt8).length ++ []) = (D, 2) from putL_long D _ HDl.out (by decide)] at hpost
          obtain ⟨A8, c8, hW8, hA8, hO8⟩ := hpost
          have HA8 : Hid (∀ b, A8.map (·.block) = some b → w.heap.size ≤ b) := fun b hb => (hA8 b hb).elim (fun h => by have := HA6.out b h; omega) (fun h => by omega)
          have hB8 : Below w.heap.size w w8 := hB7.trans (hO8.below hB7.size fun k hk => by
            rintro (h | h)
            · omega
            · have := HA6.out _ h; omega)
          have hs8 := hO8.size
          clear hA8 hO8
          go_wp2_with fail
          refine (done_any w.heap.size w.heap.size A8 c8 D 2 w8 hW8 (by have := HDl.out; omega)).mono ?_
          rintro e w9 ⟨A9, c9, rfl, -, hb9⟩
          rw [show (doneL D 2).length = 0 from rfl]
          have hW9 := hW8.below hb9
          have hB9 := hB8.trans (hb9.mono hB8.size)
          have hs9 := hb9.size
          clear hW8 hb9
          go_wp2_with fail
          refine (num_any w.heap.size w.heap.size A8 c8 D 2 (-1) w9 hW9 (by omega) (by have := HDl.out; omega) (by omega)).mono ?_
          rintro e w10 ⟨rfl, hpost⟩
          rw [show numL D 2 (-1) = (D, 2) from rfl] at hpost
          obtain ⟨A10, c10, hW10, hA10, hO10⟩ := hpost
          have hB10 : Below w.heap.size w w10 := hB9.trans (hO10.below hB9.size fun k hk => by
            rintro (h | h)
            · omega
            · have := HA8.out _ h; omega)
          clear hA10 hO10 hW9
          go_wp2_with fail
          refine (done_any w.heap.size w.heap.size A10 c10 D 2 w10 hW10 (by have := HDl.out; omega)).mono ?_
          rintro e w11 ⟨A11, c11, rfl, -, hb11⟩
          rw [show (doneL D 2).length = 0 from rfl]
          have hB11 := hB10.trans (hb11.mono hB10.size)
          clear hW10 hb11
          go_wp2_with fail
          refine (head_any w11).mono ?_
          rintro e w12 ⟨rfl, hb12⟩
          go_wp2_with fail
          go_ret
          exact ⟨rfl, hB11.trans (hb12.mono hB11.size)⟩
      · have hp1 : (0 : Int) < F.length := by omega
        have hp2 : (F.length : Int) < 4194304 := by omega
        have hc0 := HcF.out 0 (by omega)
        have hc1 := HcF.out (F.length - 1) (by omega)
        have hc2 := HcR.out F.length (Nat.le_refl _) (by omega)
        have hc3 := HcR.out 4194303 (by omega) (by omega)
        have e1 : ((F.length : Int) - 1).toNat = F.length - 1 := by omega
        go_wp2_with fail
        have Hs := Lib.hid hsF7
        clear hsF7
        refine (round_any more 5 w7 (by omega) (by omega)).mono ?_
        rintro e w8 ⟨rfl, h8⟩
        rw [h8]
        clear h8 w8
        have hm : more % 5 = 0 ∨ more % 5 = 1 ∨ more % 5 = 2 ∨ more % 5 = 3 ∨ more % 5 = 4 := by omega
        rcases hm with hm | hm | hm | hm | hm <;> rw [hm] <;> clear hm
        · go_wp2_with fail
          refine (num_any w.heap.size w.heap.size A6 c6 D 0 7 w7 hW7 (by omega) (by have := HDl.out; omega) (by omega)).mono ?_
          rintro e w8 ⟨rfl, hpost⟩
          rw [show numL D 0 7 = (D, 2) from putL_long D _ HDl.out (by decide)] at hpost
          obtain ⟨A8, c8, hW8, hA8, hO8⟩ := hpost
          have HA8 : Hid (∀ b, A8.map (·.block) = some b → w.heap.size ≤ b) := fun b hb => (hA8 b hb).elim (fun h => by have := HA6.out b h; omega) (fun h => by omega)
          have hB8 : Below w.heap.size w w8 := hB7.trans (hO8.below hB7.size fun k hk => by
            rintro (h | h)
            · omega
            · have := HA6.out _ h; omega)
          have hs8 := hO8.size
          clear hA8 hO8
          go_wp2_with fail
          refine (done_any w.heap.size w.heap.size A8 c8 D 2 w8 hW8 (by have := HDl.out; omega)).mono ?_
          rintro e w9 ⟨A9, c9, rfl, -, hb9⟩
          rw [show (doneL D 2).length = 0 from rfl]
          have hW9 := hW8.below hb9
          have hB9 := hB8.trans (hb9.mono hB8.size)
          have hs9 := hb9.size
          clear hW8 hb9
          go_wp2_with fail
          refine (num_any w.heap.size w.heap.size A8 c8 D 2 (-1) w9 hW9 (by omega) (by have := HDl.out; omega) (by omega)).mono ?_
          rintro e w10 ⟨rfl, hpost⟩
          rw [show numL D 2 (-1) = (D, 2) from rfl] at hpost
          obtain ⟨A10, c10, hW10, hA10, hO10⟩ := hpost
          have hB10 : Below w.heap.size w w10 := hB9.trans (hO10.below hB9.size fun k hk => by
            rintro (h | h)
            · omega
            · have := HA8.out _ h; omega)
          clear hA10 hO10 hW9
          go_wp2_with fail
          refine (done_any w.heap.size w.heap.size A10 c10 D 2 w10 hW10 (by have := HDl.out; omega)).mono ?_
          rintro e w11 ⟨A11, c11, rfl, -, hb11⟩
          rw [show (doneL D 2).length = 0 from rfl]
          have hB11 := hB10.trans (hb11.mono hB10.size)
          clear hW10 hb11
          go_wp2_with fail
          refine (head_any w11).mono ?_
          rintro e w12 ⟨rfl, hb12⟩
          go_wp2_with fail
          go_ret
          exact ⟨rfl, hB11.trans (hb12.mono hB11.size)⟩
        · go_wp2_with fail
          refine (bool_any w.heap.size w.heap.size A6 c6 D 0 true w7 hW7 (by have := HDl.out; omega) (by omega)).mono ?_
          rintro e w8 ⟨rfl, hpost⟩
          rw [show putL D 0 (boolL true) = (D, 2) from putL_long D _ HDl.out (by decide)] at hpost
          obtain ⟨A8, c8, hW8, hA8, hO8⟩ := hpost
          have HA8 : Hid (∀ b, A8.map (·.block) = some b → w.heap.size ≤ b) := fun b hb => (hA8 b hb).elim (fun h => by have := HA6.out b h; omega) (fun h => by omega)
          have hB8 : Below w.heap.size w w8 := hB7.trans (hO8.below hB7.size fun k hk => by
            rintro (h | h)
            · omega
            · have := HA6.out _ h; omega)
          have hs8 := hO8.size
          clear hA8 hO8
          go_wp2_with fail
          refine (done_any w.heap.size w.heap.size A8 c8 D 2 w8 hW8 (by have := HDl.out; omega)).mono ?_
          rintro e w9 ⟨A9, c9, rfl, -, hb9⟩
          rw [show (doneL D 2).length = 0 from rfl]
          have hW9 := hW8.below hb9
          have hB9 := hB8.trans (hb9.mono hB8.size)
          have hs9 := hb9.size
          clear hW8 hb9
          go_wp2_with fail
          refine (num_any w.heap.size w.heap.size A8 c8 D 2 (-1) w9 hW9 (by omega) (by have := HDl.out; omega) (by omega)).mono ?_
          rintro e w10 ⟨rfl, hpost⟩
          rw [show numL D 2 (-1) = (D, 2) from rfl] at hpost
          obtain ⟨A10, c10, hW10, hA10, hO10⟩ := hpost
          have hB10 : Below w.heap.size w w10 := hB9.trans (hO10.below hB9.size fun k hk => by
            rintro (h | h)
            · omega
            · have := HA8.out _ h; omega)
          clear hA10 hO10 hW9
          go_wp2_with fail
          refine (done_any w.heap.size w.heap.size A10 c10 D 2 w10 hW10 (by have := HDl.out; omega)).mono ?_
          rintro e w11 ⟨A11, c11, rfl, -, hb11⟩
          rw [show (doneL D 2).length = 0 from rfl]
          have hB11 := hB10.trans (hb11.mono hB10.size)
          clear hW10 hb11
          go_wp2_with fail
          refine (head_any w11).mono ?_
          rintro e w12 ⟨rfl, hb12⟩
          go_wp2_with fail
          go_ret
          exact ⟨rfl, hB11.trans (hb12.mono hB11.size)⟩
        · go_wp2_with fail
          refine (raw_any w.heap.size w.heap.size A6 c6 D 0 ⟨some ⟨w.heap.size + 1, 0, none⟩, F.length, F⟩ w7 hW7 Hs.out (by have := HDl.out; omega) (by show F.length ≤ _; omega) (fun b o _ hA => by cases hA; rintro (h | h); omega; have := HA6.out _ h; omega) (by omega)).mono ?_
          rintro e w8 ⟨rfl, hpost⟩
          rw [show putL D 0 F = (D, 2) from putL_long D _ HDl.out (by omega)] at hpost
          obtain ⟨A8, c8, hW8, hA8, hO8⟩ := hpost
          have HA8 : Hid (∀ b, A8.map (·.block) = some b → w.heap.size ≤ b) := fun b hb => (hA8 b hb).elim (fun h => by have := HA6.out b h; omega) (fun h => by omega)
          have hB8 : Below w.heap.size w w8 := hB7.trans (hO8.below hB7.size fun k hk => by
            rintro (h | h)
            · omega
            · have := HA6.out _ h; omega)
          have hs8 := hO8.size
          clear hA8 hO8
          go_wp2_with fail
          refine (text_any w.heap.size w.heap.size A8 c8 D 2 ⟨#[]⟩ w8 hW8 (by have := HDl.out; omega) (by decide) (by omega)).mono ?_
          rintro e w8' ⟨rfl, hpost⟩
          rw [show putL D 2 (formL (ByteArray.mk #[]).size ++ (ByteArray.mk #[]).data.toList) = (D, 2) from putL_two D _] at hpost
          obtain ⟨A8', c8', hW8', hA8', hO8'⟩ := hpost
          have HA8' : Hid (∀ b, A8'.map (·.block) = some b → w.heap.size ≤ b) := fun b hb => (hA8' b hb).elim (fun h => HA8.out b h) (fun h => by omega)
          have hB8' : Below w.heap.size w w8' := hB8.trans (hO8'.below hB8.size fun k hk => by
            rintro (h | h)
            · omega
            · have := HA8.out _ h; omega)
          have hs8' := hO8'.size
          clear hA8' hO8' hW8 HA8 hB8 
          revert A8' c8' w8'
          intro w8 A8 c8 hW8 HA8 hB8 hs8
          go_wp2_with fail
          refine (done_any w.heap.size w.heap.size A8 c8 D 2 w8 hW8 (by have := HDl.out; omega)).mono ?_
          rintro e w9 ⟨A9, c9, rfl, -, hb9⟩
          rw [show (doneL D 2).length = 0 from rfl]
          have hW9 := hW8.below hb9
          have hB9 := hB8.trans (hb9.mono hB8.size)
          have hs9 := hb9.size
          clear hW8 hb9
          go_wp2_with fail
          refine (num_any w.heap.size w.heap.size A8 c8 D 2 (-1) w9 hW9 (by omega) (by have := HDl.out; omega) (by omega)).mono ?_
          rintro e w10 ⟨rfl, hpost⟩
          rw [show numL D 2 (-1) = (D, 2) from rfl] at hpost
          obtain ⟨A10, c10, hW10, hA10, hO10⟩ := hpost
          have hB10 : Below w.heap.size w w10 := hB9.trans (hO10.below hB9.size fun k hk => by
            rintro (h | h)
            · omega
            · have := HA8.out _ h; omega)
          clear hA10 hO10 hW9
          go_wp2_with fail
          refine (done_any w.heap.size w.heap.size A10 c10 D 2 w10 hW10 (by have := HDl.out; omega)).mono ?_
          rintro e w11 ⟨A11, c11, rfl, -, hb11⟩
          rw [show (doneL D 2).length = 0 from rfl]
          have hB11 := hB10.trans (hb11.mono hB10.size)
          clear hW10 hb11
          go_wp2_with fail
          refine (head_any w11).mono ?_
          rintro e w12 ⟨rfl, hb12⟩
          go_wp2_with fail
          go_ret
          exact ⟨rfl, hB11.trans (hb12.mono hB11.size)⟩
        · go_wp2_with fail
          refine (int_any w.heap.size w.heap.size A6 c6 D 0 (-1) w7 hW7 (by omega) (by omega) (by have := HDl.out; omega) (by omega)).mono ?_
          rintro e w8 ⟨rfl, hpost⟩
          rw [show putL D 0 (formL (foldN (-1))) = (D, 2) from putL_long D _ HDl.out (by decide)] at hpost
          obtain ⟨A8, c8, hW8, hA8, hO8⟩ := hpost
          have HA8 : Hid (∀ b, A8.map (·.block) = some b → w.heap.size ≤ b) := fun b hb => (hA8 b hb).elim (fun h => by have := HA6.out b h; omega) (fun h => by omega)
          have hB8 : Below w.heap.size w w8 := hB7.trans (hO8.below hB7.size fun k hk => by
            rintro (h | h)
            · omega
            · have := HA6.out _ h; omega)
          have hs8 := hO8.size
          clear hA8 hO8
          go_wp2_with fail
          refine (done_any w.heap.size w.heap.size A8 c8 D 2 w8 hW8 (by have := HDl.out; omega)).mono ?_
          rintro e w9 ⟨A9, c9, rfl, -, hb9⟩
          rw [show (doneL D 2).length = 0 from rfl]
          have hW9 := hW8.below hb9
          have hB9 := hB8.trans (hb9.mono hB8.size)
          have hs9 := hb9.size
          clear hW8 hb9
          go_wp2_with fail
          refine (num_any w.heap.size w.heap.size A8 c8 D 2 (-1) w9 hW9 (by omega) (by have := HDl.out; omega) (by omega)).mono ?_
          rintro e w10 ⟨rfl, hpost⟩
          rw [show numL D 2 (-1) = (D, 2) from rfl] at hpost
          obtain ⟨A10, c10, hW10, hA10, hO10⟩ := hpost
          have hB10 : Below w.heap.size w w10 := hB9.trans (hO10.below hB9.size fun k hk => by
            rintro (h | h)
            · omega
            · have := HA8.out _ h; omega)
          clear hA10 hO10 hW9
          go_wp2_with fail
          refine (done_any w.heap.size w.heap.size A10 c10 D 2 w10 hW10 (by have := HDl.out; omega)).mono ?_
          rintro e w11 ⟨A11, c11, rfl, -, hb11⟩
          rw [show (doneL D 2).length = 0 from rfl]
          have hB11 := hB10.trans (hb11.mono hB10.size)
          clear hW10 hb11
          go_wp2_with fail
          refine (head_any w11).mono ?_
          rintro e w12 ⟨rfl, hb12⟩
          go_wp2_with fail
          go_ret
          exact ⟨rfl, hB11.trans (hb12.mono hB11.size)⟩
        · go_wp2_with fail
          refine (bytes_any w.heap.size w.heap.size A6 c6 D 0 ⟨none, 0, []⟩ w7 hW7 ⟨RV.nil _ _, fun _ => ⟨rfl, rfl⟩⟩ (by have := HDl.out; omega) (by simp) (fun b o _ hA => by cases hA) (by omega)).mono ?_
          rintro e w8 ⟨rfl, hpost⟩
          rw [show putL D 0 (formL ([] : List UInt8).length ++ []) = (D, 2) from putL_long D _ HDl.out (by decide)] at hpost
          obtain ⟨A8, c8, hW8, hA8, hO8⟩ := hpost
          have HA8 : Hid (∀ b, A8.map (·.block) = some b → w.heap.size ≤ b) := fun b hb => (hA8 b hb).elim (fun h => by have := HA6.out b h; omega) (fun h => by omega)
          have hB8 : Below w.heap.size w w8 := hB7.trans (hO8.below hB7.size fun k hk => by
            rintro (h | h)
            · omega
            · have := HA6.out _ h; omega)
          have hs8 := hO8.size
          clear hA8 hO8
          go_wp2_with fail
          refine (done_any w.heap.size w.heap.size A8 c8 D 2 w8 hW8 (by have := HDl.out; omega)).mono ?_
          rintro e w9 ⟨A9, c9, rfl, -, hb9⟩
          rw [show (doneL D 2).length = 0 from rfl]
          have hW9 := hW8.below hb9
          have hB9 := hB8.trans (hb9.mono hB8.size)
          have hs9 := hb9.size
          clear hW8 hb9
          go_wp2_with fail
          refine (num_any w.heap.size w.heap.size A8 c8 D 2 (-1) w9 hW9 (by omega) (by have := HDl.out; omega) (by omega)).mono ?_
          rintro e w10 ⟨rfl, hpost⟩
          rw [show numL D 2 (-1) = (D, 2) from rfl] at hpost
          obtain ⟨A10, c10, hW10, hA10, hO10⟩ := hpost
          have hB10 : Below w.heap.size w w10 := hB9.trans (hO10.below hB9.size fun k hk => by
            rintro (h | h)
            · omega
            · have := HA8.out _ h; omega)
          clear hA10 hO10 hW9
          go_wp2_with fail
          refine (done_any w.heap.size w.heap.size A10 c10 D 2 w10 hW10 (by have := HDl.out; omega)).mono ?_
          rintro e w11 ⟨A11, c11, rfl, -, hb11⟩
          rw [show (doneL D 2).length = 0 from rfl]
          have hB11 := hB10.trans (hb11.mono hB10.size)
          clear hW10 hb11
          go_wp2_with fail
          refine (head_any w11).mono ?_
          rintro e w12 ⟨rfl, hb12⟩
          go_wp2_with fail
          go_ret
          exact ⟨rfl, hB11.trans (hb12.mono hB11.size)⟩
      · have hp1 : (0 : Int) < F.length := by omega
        have hp2 : decide ((F.length : Int) < 4194304) = false := by rw [decide_eq_false_iff_not]; omega
        have hc0 := HcF.out 0 (by omega)
        have hc1 := HcF.out (F.length - 1) (by omega)
        have e1 : ((F.length : Int) - 1).toNat = F.length - 1 := by omega
        have h1 : F.length - 1 < 4194304 := by omega
        have h2 : 0 < F.length := by omega
        have H0 := Lib.hid h0
        clear h0
        go_wp2_with fail
        have Hs := Lib.hid hsF7
        clear hsF7
        refine (round_any more 5 w7 (by omega) (by omega)).mono ?_
        rintro e w8 ⟨rfl, h8⟩
        rw [h8]
        clear h8 w8
        have hm : more % 5 = 0 ∨ more % 5 = 1 ∨ more % 5 = 2 ∨ more % 5 = 3 ∨ more % 5 = 4 := by omega
        rcases hm with hm | hm | hm | hm | hm <;> rw [hm] <;> clear hm
        · go_wp2_with fail
          refine (num_any w.heap.size w.heap.size A6 c6 D 0 7 w7 hW7 (by omega) (by have := HDl.out; omega) (by omega)).mono ?_
          rintro e w8 ⟨rfl, hpost⟩
          rw [show numL D 0 7 = (D, 2) from putL_long D _ HDl.out (by decide)] at hpost
          obtain ⟨A8, c8, hW8, hA8, hO8⟩ := hpost
          have HA8 : Hid (∀ b, A8.map (·.block) = some b → w.heap.size ≤ b) := fun b hb => (hA8 b hb).elim (fun h => by have := HA6.out b h; omega) (fun h => by omega)
          have hB8 : Below w.heap.size w w8 := hB7.trans (hO8.below hB7.size fun k hk => by
            rintro (h | h)
            · omega
            · have := HA6.out _ h; omega)
          have hs8 := hO8.size
          clear hA8 hO8
          go_wp2_with fail
          refine (done_any w.heap.size w.heap.size A8 c8 D 2 w8 hW8 (by have := HDl.out; omega)).mono ?_
          rintro e w9 ⟨A9, c9, rfl, -, hb9⟩
          rw [show (doneL D 2).length = 0 from rfl]
          have hW9 := hW8.below hb9
          have hB9 := hB8.trans (hb9.mono hB8.size)
          have hs9 := hb9.size
          clear hW8 hb9
          go_wp2_with fail
          refine (num_any w.heap.size w.heap.size A8 c8 D 2 (-1) w9 hW9 (by omega) (by have := HDl.out; omega) (by omega)).mono ?_
          rintro e w10 ⟨rfl, hpost⟩
          rw [show numL D 2 (-1) = (D, 2) from rfl] at hpost
          obtain ⟨A10, c10, hW10, hA10, hO10⟩ := hpost
          have hB10 : Below w.heap.size w w10 := hB9.trans (hO10.below hB9.size fun k hk => by
            rintro (h | h)
            · omega
            · have := HA8.out _ h; omega)
          clear hA10 hO10 hW9
          go_wp2_with fail
          refine (done_any w.heap.size w.heap.size A10 c10 D 2 w10 hW10 (by have := HDl.out; omega)).mono ?_
          rintro e w11 ⟨A11, c11, rfl, -, hb11⟩
          rw [show (doneL D 2).length = 0 from rfl]
          have hB11 := hB10.trans (hb11.mono hB10.size)
          clear hW10 hb11
          go_wp2_with fail
          refine (head_any w11).mono ?_
          rintro e w12 ⟨rfl, hb12⟩
          go_wp2_with fail
          go_ret
          exact ⟨rfl, hB11.trans (hb12.mono hB11.size)⟩
        · go_wp2_with fail
          refine (bool_any w.heap.size w.heap.size A6 c6 D 0 true w7 hW7 (by have := HDl.out; omega) (by omega)).mono ?_
          rintro e w8 ⟨rfl, hpost⟩
          rw [show putL D 0 (boolL true) = (D, 2) from putL_long D _ HDl.out (by decide)] at hpost
          obtain ⟨A8, c8, hW8, hA8, hO8⟩ := hpost
          have HA8 : Hid (∀ b, A8.map (·.block) = some b → w.heap.size ≤ b) := fun b hb => (hA8 b hb).elim (fun h => by have := HA6.out b h; omega) (fun h => by omega)
          have hB8 : Below w.heap.size w w8 := hB7.trans (hO8.below hB7.size fun k hk => by
            rintro (h | h)
            · omega
            · have := HA6.out _ h; omega)
          have hs8 := hO8.size
          clear hA8 hO8
          go_wp2_with fail
          refine (done_any w.heap.size w.heap.size A8 c8 D 2 w8 hW8 (by have := HDl.out; omega)).mono ?_
          rintro e w9 ⟨A9, c9, rfl, -, hb9⟩
          rw [show (doneL D 2).length = 0 from rfl]
          have hW9 := hW8.below hb9
          have hB9 := hB8.trans (hb9.mono hB8.size)
          have hs9 := hb9.size
          clear hW8 hb9
          go_wp2_with fail
          refine (num_any w.heap.size w.heap.size A8 c8 D 2 (-1) w9 hW9 (by omega) (by have := HDl.out; omega) (by omega)).mono ?_
          rintro e w10 ⟨rfl, hpost⟩
          rw [show numL D 2 (-1) = (D, 2) from rfl] at hpost
          obtain ⟨A10, c10, hW10, hA10, hO10⟩ := hpost
          have hB10 : Below w.heap.size w w10 := hB9.trans (hO10.below hB9.size fun k hk => by
            rintro (h | h)
            · omega
            · have := HA8.out _ h; omega)
          clear hA10 hO10 hW9
          go_wp2_with fail
          refine (done_any w.heap.size w.heap.size A10 c10 D 2 w10 hW10 (by have := HDl.out; omega)).mono ?_
          rintro e w11 ⟨A11, c11, rfl, -, hb11⟩
          rw [show (doneL D 2).length = 0 from rfl]
          have hB11 := hB10.trans (hb11.mono hB10.size)
          clear hW10 hb11
          go_wp2_with fail
          refine (head_any w11).mono ?_
          rintro e w12 ⟨rfl, hb12⟩
          go_wp2_with fail
          go_ret
          exact ⟨rfl, hB11.trans (hb12.mono hB11.size)⟩
        · go_wp2_with fail
          refine (raw_any w.heap.size w.heap.size A6 c6 D 0 ⟨some ⟨w.heap.size + 1, 0, none⟩, F.length, F⟩ w7 hW7 Hs.out (by have := HDl.out; omega) (by show F.length ≤ _; omega) (fun b o _ hA => by cases hA; rintro (h | h); omega; have := HA6.out _ h; omega) (by omega)).mono ?_
          rintro e w8 ⟨rfl, hpost⟩
          rw [show putL D 0 F = (D, 2) from putL_long D _ HDl.out (by omega)] at hpost
          obtain ⟨A8, c8, hW8, hA8, hO8⟩ := hpost
          have HA8 : Hid (∀ b, A8.map (·.block) = some b → w.heap.size ≤ b) := fun b hb => (hA8 b hb).elim (fun h => by have := HA6.out b h; omega) (fun h => by omega)
          have hB8 : Below w.heap.size w w8 := hB7.trans (hO8.below hB7.size fun k hk => by
            rintro (h | h)
            · omega
            · have := HA6.out _ h; omega)
          have hs8 := hO8.size
          clear hA8 hO8
          go_wp2_with fail
          refine (text_any w.heap.size w.heap.size A8 c8 D 2 ⟨#[]⟩ w8 hW8 (by have := HDl.out; omega) (by decide) (by omega)).mono ?_
          rintro e w8' ⟨rfl, hpost⟩
          rw [show putL D 2 (formL (ByteArray.mk #[]).size ++ (ByteArray.mk #[]).data.toList) = (D, 2) from putL_two D _] at hpost
          obtain ⟨A8', c8', hW8', hA8', hO8'⟩ := hpost
          have HA8' : Hid (∀ b, A8'.map (·.block) = some b → w.heap.size ≤ b) := fun b hb => (hA8' b hb).elim (fun h => HA8.out b h) (fun h => by omega)
          have hB8' : Below w.heap.size w w8' := hB8.trans (hO8'.below hB8.size fun k hk => by
            rintro (h | h)
            · omega
            · have := HA8.out _ h; omega)
          have hs8' := hO8'.size
          clear hA8' hO8' hW8 HA8 hB8 
          revert A8' c8' w8'
          intro w8 A8 c8 hW8 HA8 hB8 hs8
          go_wp2_with fail
          refine (done_any w.heap.size w.heap.size A8 c8 D 2 w8 hW8 (by have := HDl.out; omega)).mono ?_
          rintro e w9 ⟨A9, c9, rfl, -, hb9⟩
          rw [show (doneL D 2).length = 0 from rfl]
          have hW9 := hW8.below hb9
          have hB9 := hB8.trans (hb9.mono hB8.size)
          have hs9 := hb9.size
          clear hW8 hb9
          go_wp2_with fail
          refine (num_any w.heap.size w.heap.size A8 c8 D 2 (-1) w9 hW9 (by omega) (by have := HDl.out; omega) (by omega)).mono ?_
          rintro e w10 ⟨rfl, hpost⟩
          rw [show numL D 2 (-1) = (D, 2) from rfl] at hpost
          obtain ⟨A10, c10, hW10, hA10, hO10⟩ := hpost
          have hB10 : Below w.heap.size w w10 := hB9.trans (hO10.below hB9.size fun k hk => by
            rintro (h | h)
            · omega
            · have := HA8.out _ h; omega)
          clear hA10 hO10 hW9
          go_wp2_with fail
          refine (done_any w.heap.size w.heap.size A10 c10 D 2 w10 hW10 (by have := HDl.out; omega)).mono ?_
          rintro e w11 ⟨A11, c11, rfl, -, hb11⟩
          rw [show (doneL D 2).length = 0 from rfl]
          have hB11 := hB10.trans (hb11.mono hB10.size)
          clear hW10 hb11
          go_wp2_with fail
          refine (head_any w11).mono ?_
          rintro e w12 ⟨rfl, hb12⟩
          go_wp2_with fail
          go_ret
          exact ⟨rfl, hB11.trans (hb12.mono hB11.size)⟩
        · go_wp2_with fail
          refine (int_any w.heap.size w.heap.size A6 c6 D 0 (-1) w7 hW7 (by omega) (by omega) (by have := HDl.out; omega) (by omega)).mono ?_
          rintro e w8 ⟨rfl, hpost⟩
          rw [show putL D 0 (formL (foldN (-1))) = (D, 2) from putL_long D _ HDl.out (by decide)] at hpost
          obtain ⟨A8, c8, hW8, hA8, hO8⟩ := hpost
          have HA8 : Hid (∀ b, A8.map (·.block) = some b → w.heap.size ≤ b) := fun b hb => (hA8 b hb).elim (fun h => by have := HA6.out b h; omega) (fun h => by omega)
          have hB8 : Below w.heap.size w w8 := hB7.trans (hO8.below hB7.size fun k hk => by
            rintro (h | h)
            · omega
            · have := HA6.out _ h; omega)
          have hs8 := hO8.size
          clear hA8 hO8
          go_wp2_with fail
          refine (done_any w.heap.size w.heap.size A8 c8 D 2 w8 hW8 (by have := HDl.out; omega)).mono ?_
          rintro e w9 ⟨A9, c9, rfl, -, hb9⟩
          rw [show (doneL D 2).length = 0 from rfl]
          have hW9 := hW8.below hb9
          have hB9 := hB8.trans (hb9.mono hB8.size)
          have hs9 := hb9.size
          clear hW8 hb9
          go_wp2_with fail
          refine (num_any w.heap.size w.heap.size A8 c8 D 2 (-1) w9 hW9 (by omega) (by have := HDl.out; omega) (by omega)).mono ?_
          rintro e w10 ⟨rfl, hpost⟩
          rw [show numL D 2 (-1) = (D, 2) from rfl] at hpost
          obtain ⟨A10, c10, hW10, hA10, hO10⟩ := hpost
          have hB10 : Below w.heap.size w w10 := hB9.trans (hO10.below hB9.size fun k hk => by
            rintro (h | h)
            · omega
            · have := HA8.out _ h; omega)
          clear hA10 hO10 hW9
          go_wp2_with fail
          refine (done_any w.heap.size w.heap.size A10 c10 D 2 w10 hW10 (by have := HDl.out; omega)).mono ?_
          rintro e w11 ⟨A11, c11, rfl, -, hb11⟩
          rw [show (doneL D 2).length = 0 from rfl]
          have hB11 := hB10.trans (hb11.mono hB10.size)
          clear hW10 hb11
          go_wp2_with fail
          refine (head_any w11).mono ?_
          rintro e w12 ⟨rfl, hb12⟩
          go_wp2_with fail
          go_ret
          exact ⟨rfl, hB11.trans (hb12.mono hB11.size)⟩
        · go_wp2_with fail
          refine (bytes_any w.heap.size w.heap.size A6 c6 D 0 ⟨none, 0, []⟩ w7 hW7 ⟨RV.nil _ _, fun _ => ⟨rfl, rfl⟩⟩ (by have := HDl.out; omega) (by simp) (fun b o _ hA => by cases hA) (by omega)).mono ?_
          rintro e w8 ⟨rfl, hpost⟩
          rw [show putL D 0 (formL ([] : List UInt8).length ++ []) = (D, 2) from putL_long D _ HDl.out (by decide)] at hpost
          obtain ⟨A8, c8, hW8, hA8, hO8⟩ := hpost
          have HA8 : Hid (∀ b, A8.map (·.block) = some b → w.heap.size ≤ b) := fun b hb => (hA8 b hb).elim (fun h => by have := HA6.out b h; omega) (fun h => by omega)
          have hB8 : Below w.heap.size w w8 := hB7.trans (hO8.below hB7.size fun k hk => by
            rintro (h | h)
            · omega
            · have := HA6.out _ h; omega)
          have hs8 := hO8.size
          clear hA8 hO8
          go_wp2_with fail
          refine (done_any w.heap.size w.heap.size A8 c8 D 2 w8 hW8 (by have := HDl.out; omega)).mono ?_
          rintro e w9 ⟨A9, c9, rfl, -, hb9⟩
          rw [show (doneL D 2).length = 0 from rfl]
          have hW9 := hW8.below hb9
          have hB9 := hB8.trans (hb9.mono hB8.size)
          have hs9 := hb9.size
          clear hW8 hb9
          go_wp2_with fail
          refine (num_any w.heap.size w.heap.size A8 c8 D 2 (-1) w9 hW9 (by omega) (by have := HDl.out; omega) (by omega)).mono ?_
          rintro e w10 ⟨rfl, hpost⟩
          rw [show numL D 2 (-1) = (D, 2) from rfl] at hpost
          obtain ⟨A10, c10, hW10, hA10, hO10⟩ := hpost
          have hB10 : Below w.heap.size w w10 := hB9.trans (hO10.below hB9.size fun k hk => by
            rintro (h | h)
            · omega
            · have := HA8.out _ h; omega)
          clear hA10 hO10 hW9
          go_wp2_with fail
          refine (done_any w.heap.size w.heap.size A10 c10 D 2 w10 hW10 (by have := HDl.out; omega)).mono ?_
          rintro e w11 ⟨A11, c11, rfl, -, hb11⟩
          rw [show (doneL D 2).length = 0 from rfl]
          have hB11 := hB10.trans (hb11.mono hB10.size)
          clear hW10 hb11
          go_wp2_with fail
          refine (head_any w11).mono ?_
          rintro e w12 ⟨rfl, hb12⟩
          go_wp2_with fail
          go_ret
          exact ⟨rfl, hB11.trans (hb12.mono hB11.size)⟩
end Go.Proofs.Ytefaapcekbgjoaa
