/- The walk of the program's Write: what the Hash holds behind it. -/
import Derived.Test.YtmlkfkpffbbfaaaShaB
import Derived.Test.YtmlkfkpffbbfaaaArms
import Derived.Test.YtmlkfkpffbbfaaaShaM
namespace Go.Proofs.Ytmlkfkpffbbfaaa
open Go.RowKit

/-- The Hash in block g holds xs. -/
def HashV (w : World) (g : Nat) (xs : List UInt8) : Prop := ∃ ws begun rest n, Blk w g 51 (hashL ws begun rest n).toArray ∧ HashOf xs ws begun rest n
theorem HashV.lt {w : World} {g : Nat} {xs : List UInt8} (h : HashV w g xs) : g < w.heap.size := by
  obtain ⟨_, _, _, _, hb, _⟩ := h
  exact hb.lt
theorem HashV.only {S : Nat → Prop} {w w' : World} {g : Nat} {xs : List UInt8} (h : HashV w g xs) (ho : Only S w w') (hn : ¬ S g) : HashV w' g xs := by
  obtain ⟨ws, begun, rest, n, hb, hh⟩ := h
  exact ⟨ws, begun, rest, n, hb.only ho hn, hh⟩
theorem HashV.below {w w' : World} {B g : Nat} {xs : List UInt8} (h : HashV w g xs) (ho : Below B w w') (hn : g < B) : HashV w' g xs := by
  obtain ⟨ws, begun, rest, n, hb, hh⟩ := h
  exact ⟨ws, begun, rest, n, hb.below ho hn, hh⟩

theorem hash_rest (ws : List UInt32) (begun : Bool) (rest ys : List UInt8) (n k : Nat) (h : ws.length = 8) (hk : k + ys.length ≤ rest.length) :
    splice (hashL ws begun rest n) (9 + k) (ys.map bv) = hashL ws begun (rest.take k ++ (ys ++ rest.drop (k + ys.length))) n := by
  have e1 : (ws.map wv ++ [Value.bool begun]).length = 9 := by simp [h]
  have e2 : ∀ m, (hashL ws begun rest n) = (ws.map wv ++ [Value.bool begun]) ++ ((rest.take m).map bv ++ ((rest.drop m).map bv ++ [.int .i64 n])) := fun m => by
    unfold hashL
    conv => lhs; rw [← List.take_append_drop m rest]
    simp only [List.map_append, List.append_assoc]
  unfold splice
  have a1 : (hashL ws begun rest n).take (9 + k) = (ws.map wv ++ [Value.bool begun]) ++ (rest.take k).map bv := by
    rw [e2 k, ← List.append_assoc, List.take_append_of_le_length (by rw [List.length_append, e1, List.length_map, List.length_take]; omega), List.take_of_length_le (by rw [List.length_append, e1, List.length_map, List.length_take]; omega)]
  have a2 : (hashL ws begun rest n).drop (9 + k + (ys.map bv).length) = (rest.drop (k + ys.length)).map bv ++ [.int .i64 n] := by
    rw [e2 (k + ys.length), ← List.append_assoc, List.length_map, List.drop_append_of_le_length (by rw [List.length_append, e1, List.length_map, List.length_take]; omega), List.drop_of_length_le (by rw [List.length_append, e1, List.length_map, List.length_take]; omega), List.nil_append]
  rw [a1, a2]
  unfold hashL
  simp only [List.map_append, List.append_assoc]
theorem size1B : (Try.prog.info? 5).map (·.size) = some 1 := by kernel_rfl
theorem sizeB (w : World) : (sizeOf (Try.prog.elem 25)).run Try.prog w = .ok 1 w := by kernel_rfl
theorem RVtake {w : World} {b o : Nat} {zs : List UInt8} (h : RV w (some ⟨b, o, none⟩) (zs.map bv)) (k : Nat) : RV w (some ⟨b, o, none⟩) ((zs.take k).map bv) := by
  have h1 := h.cut 0 k
  rw [List.drop_zero, ← List.map_take] at h1
  exact h1
theorem hash_n (ws : List UInt32) (begun : Bool) (rest : List UInt8) (n m : Nat) (h : ws.length = 8) (hr : rest.length = 64) : (hashL ws begun rest n).set 73 (.int .i64 m) = hashL ws begun rest m := by
  unfold hashL
  rw [List.set_append_right _ _ (by simp [h, hr])]
  simp [h, hr]
theorem hash_at_n {w : World} {g : Nat} {ty : TypeId} {ws : List UInt32} {begun : Bool} {rest : List UInt8} {n : Nat} (hb : Blk w g ty (hashL ws begun rest n).toArray) (h : ws.length = 8) (hr : rest.length = 64) : w.cell? ⟨g, 73, none⟩ = some (.int .i64 (n : Int)) := by
  rw [hb.at_]
  unfold hashL
  rw [List.getElem?_append_right (by simp [h, hr])]
  simp [h, hr]
theorem hash_rv {w : World} {g : Nat} {ty : TypeId} {ws : List UInt32} {begun : Bool} {rest : List UInt8} {n : Nat} (hb : Blk w g ty (hashL ws begun rest n).toArray) (h : ws.length = 8) (hr : rest.length = 64) : RV w (some ⟨g, 9, none⟩) (rest.map bv) := by
  have h1 := (RV.of_blk hb).cut 9 64
  have e : ((hashL ws begun rest n).drop 9).take 64 = rest.map bv := by
    unfold hashL
    rw [List.append_assoc, List.append_assoc, ← List.append_assoc, List.drop_append_of_le_length (by simp [h]), List.drop_of_length_le (by simp [h]), List.nil_append, List.take_append_of_le_length (by simp [hr]), List.take_of_length_le (by simp [hr])]
  rw [e] at h1
  exact h1

theorem arr64 : Try.prog.underlying 49 = some (.array (Try.prog.arrayLen 49) (Try.prog.elem 49)) := by kernel_rfl
theorem run_rest (g t : Nat) (h : t < 64) (w : World) : (Instr.sliceAt 49 (.pointer (some ⟨g, 9, none⟩)) (some (.int .i64 (t : Int))) none none).run Try.prog w = .ok (.slice (some ⟨g, 9 + t, none⟩) (64 - t) (64 - t)) w := by
  have hl : Try.prog.arrayLen 49 = 64 := by kernel_rfl
  have hs : (sizeOf (Try.prog.elem 49)).run Try.prog w = .ok 1 w := by kernel_rfl
  rw [run_sliceAt_array_l w _ _ arr64 _ _ (by omega) (by rw [hl]; omega), hs, Result.andThen_ok, hl]
  unfold slicedAt
  rw [Int.toNat_natCast, if_neg (by omega), Nat.mul_one, addr_add]
theorem run_all (g : Nat) (w : World) : (Instr.sliceAt 49 (.pointer (some ⟨g, 9, none⟩)) none none none).run Try.prog w = .ok (.slice (some ⟨g, 9, none⟩) 64 64) w := by
  have hl : Try.prog.arrayLen 49 = 64 := by kernel_rfl
  have hs : (sizeOf (Try.prog.elem 49)).run Try.prog w = .ok 1 w := by kernel_rfl
  rw [run_sliceAt_array_all w _ _ arr64, hs, Result.andThen_ok, hl]
  rfl

set_option maxHeartbeats 2000000 in
theorem write_any (g : Nat) (xs bs : List UInt8) (A : Option Addr) (c : Nat) (w : World) (hH : HashV w g xs) (hr : RV w A (bs.map bv)) (hne : bs ≠ [] → ∀ b o, A = some ⟨b, o, none⟩ → b ≠ g)
    (hl : xs.length + bs.length ≤ 4611686018427387904) (hc : bs.length ≤ c) (hcm : c ≤ maxLen) :
    Calls Try.prog 22 #[.pointer (some ⟨g, 0, none⟩), .slice A bs.length c] w fun e w' => e = .returned (.tuple #[]) ∧ HashV w' g (xs ++ bs) ∧ Only (fun k => k = g) w w' := by
  unfold maxLen at hcm
  have hgl := hH.lt
  have Hr := Lib.hid hr
  have Hne := Lib.hid hne
  have HH := Lib.hid hH
  clear hr hne hH
  go_enter Try.func22, Try.ntmps22
  go_wp2_with fail
  go_loopw [1] (fun v wr => ∃ (ys zs : List UInt8) (A' : Option Addr) (c' : Nat), bs = ys ++ zs ∧ zs.length ≤ c' ∧ c' ≤ c ∧ v = .slice A' zs.length c' ∧ RV wr A' (zs.map bv) ∧ (zs ≠ [] → ∀ b o, A' = some ⟨b, o, none⟩ → b ≠ g) ∧ HashV wr g (xs ++ ys) ∧ Only (fun k => k = g) w wr)
    (fun v _ => match v with | .slice _ n _ => n | _ => 0)
  case atStart => exact ⟨[], bs, A, c, rfl, hc, Nat.le_refl _, rfl, Hr.out, Hne.out, by rw [List.append_nil]; exact HH.out, Only.refl _ _⟩
  case round =>
    obtain ⟨ys, zs, A', c', hbs, hzc, hcc, rfl, hrz, hnz, hHV, hO⟩ := hrel
    have Hbs := Lib.hid hbs
    have hbl : bs.length = ys.length + zs.length := by rw [hbs, List.length_append]
    have Hrz := Lib.hid hrz
    have Hnz := Lib.hid hnz
    have HO := Lib.hid hO
    clear hbs hrz hnz hO
    by_cases hz : zs.length = 0
    · obtain rfl : zs = [] := List.length_eq_zero_iff.1 hz
      go_wp2_with fail
      have hb2 := Hbs.out
      rw [List.append_nil] at hb2
      refine bodyPost_end (v := .tuple #[]) (results_none rfl _ _ _) rfl ⟨rfl, by rw [hb2]; exact hHV, HO.out⟩
    · obtain ⟨ws, begun, rest, n, hblk, hof⟩ := hHV
      have hn := hof.n_eq
      have hwl := hof.ws_len
      have hrl := hof.rest_len
      have hcn := hash_at_n hblk hwl hrl
      have hxl : n = xs.length + ys.length := by rw [hn, List.length_append]
      obtain ⟨gz, oz, rfl, hgz, -⟩ := Hrz.out.at_ (by rw [List.length_map]; omega)
      have hne := Hnz.out (fun h => hz (by rw [h]; rfl)) gz oz rfl
      obtain ⟨t, ht⟩ : ∃ t, t = n % 64 := ⟨_, rfl⟩
      have htm : (n : Int) % 64 = (t : Int) := by omega
      have ht64 : t < 64 := by omega
      have hzl : 0 < zs.length := by omega
      have Hof := Lib.hid hof
      have Hblk := Lib.hid hblk
      have Hn := Lib.hid hn
      have Hht := Lib.hid ht
      have Hbl := Lib.hid hbl
      have Hxl := Lib.hid hxl
      have hnb : n ≤ 4611686018427387904 := by omega
      have hnb2 : n + zs.length ≤ 4611686018427387904 := by omega
      clear hof hblk hn ht hbl hxl
      obtain ⟨k, hk1, hk2, hk3⟩ : ∃ k, k ≤ zs.length ∧ t + k ≤ 64 ∧ (t + k = 64 ∨ k = zs.length) := by
        by_cases h : 64 ≤ t + zs.length
        · exact ⟨64 - t, by omega, by omega, by omega⟩
        · exact ⟨zs.length, by omega, by omega, by omega⟩
      have hk0 : 0 < k := by omega
      obtain ⟨A2, hfrom, hmv⟩ := run_from (P := Try.prog) Try.underlying25 sizeB (some ⟨gz, oz, none⟩) zs.length c' k hk1
      have hmin : k = Nat.min zs.length (64 - t) := by
        rcases hk3 with h | h
        · exact ((Nat.min_eq_right (by omega)).trans (by omega)).symm
        · exact ((Nat.min_eq_left (by omega)).trans (by omega)).symm
      have Hmin := Lib.hid hmin
      have Hmv := Lib.hid hmv
      have htk : (t : Int) + (k : Int) ≤ 64 := by omega
      have hnk : (n : Int) + (k : Int) ≤ 4611686018427387904 := by omega
      have hsl := run_rest g t ht64
      have hall := run_all g
      have hzt : (zs.take k).length = k := by rw [List.length_take]; omega
      have Hzt := Lib.hid hzt
      have Hk3 := Lib.hid hk3
      clear hwl hrl hmin hmv hzt hk3
      by_cases hfull : t + k = 64
      · have hd : ((n : Int) % 64 + (k : Int) == 64) = true := by rw [beq_iff_eq]; omega
        have hd2 : ((t : Int) + (k : Int) == 64) = true := by rw [beq_iff_eq]; omega
        have Hfull := Lib.hid hfull
        clear hfull
        go_wp2_with (refine wpList_at 20 rfl ?_; refine wp_stop ?_)
        refine ⟨?_⟩
        refine wpList_copy1 rfl (.tmp 18) (.tmp 19) rfl Try.underlying25 size1B (g := g) (off := 9 + t) (dLen := 64 - t) (dCap := 64 - t) (A := some ⟨gz, oz, none⟩) (n := k) (sLen := zs.length) (sCap := c') rfl rfl (cur := hashL ws begun rest n) Hblk.out (us := (zs.take k).map bv) (RVtake Hrz.out _) ?_ Hmin.out ?_ ?_ (map_bv_one _) ?_
        · rw [List.length_map, Hzt.out]
        · rw [List.length_map, Hzt.out]; omega
        · rw [length_hashL, Hof.out.ws_len, Hof.out.rest_len]; omega
        intro w8 hblk8 ho8
        rw [hash_rest _ _ _ _ _ _ Hof.out.ws_len (by rw [Hzt.out, Hof.out.rest_len]; omega)] at hblk8
        have hrl8 : (rest.take t ++ (zs.take k ++ rest.drop (t + (zs.take k).length))).length = 64 := by
          rw [List.length_append, List.length_append, List.length_take, List.length_drop, Hzt.out, Hof.out.rest_len]; omega
        have hc8 := hash_at_n hblk8 Hof.out.ws_len hrl8
        have hf8 := hblk8.frozen 73
        have hg8 := hblk8.lt
        have Hblk8 := Lib.hid hblk8
        have HO8 := Lib.hid (HO.out.trans ho8)
        have HR9 : Hid (RV (w8.setCell ⟨g, 73, none⟩ (.int .i64 ((n : Int) + (k : Int)))) A2 ((zs.drop k).map bv)) := by
          have h := ((Hrz.out.only ho8 fun _ b o h => by cases h; exact hne).far (p := ⟨g, 73, none⟩) (fun b o h => by cases h; exact hne) (.int .i64 ((n : Int) + (k : Int)))).moved Hmv.out (by rw [List.length_map]; omega)
          rw [← List.map_drop] at h
          exact h
        have HN9 : Hid (zs.drop k ≠ [] → ∀ b o, A2 = some ⟨b, o, none⟩ → b ≠ g) := fun _ b o h => by
          obtain ⟨o2, h2⟩ := Hmv.out.block
          rw [h2] at h
          cases h
          exact hne
        have Hrl8 := Lib.hid hrl8
        have Hblk9 : Hid (Blk (w8.setCell ⟨g, 73, none⟩ (.int .i64 ((n : Int) + (k : Int)))) g 51 (hashL ws begun (rest.take t ++ (zs.take k ++ rest.drop (t + (zs.take k).length))) (n + k)).toArray) := by
          have h := hblk8.setL 73 (.int .i64 ((n + k : Nat) : Int))
          rw [hash_n _ _ _ _ _ Hof.out.ws_len hrl8, Int.natCast_add] at h
          exact h
        have HO9 : Hid (Only (fun k => k = g) w (w8.setCell ⟨g, 73, none⟩ (.int .i64 ((n : Int) + (k : Int))))) := HO8.out.setCell (p := ⟨g, 73, none⟩) (.inl rfl) _
        clear hblk8 ho8 hrl8 hcn
        go_wp2_with fail
        have hof2 := Hof.out.full (ys := zs.take k) (by rw [Hzt.out, ← Hn.out, ← Hht.out]; exact Hfull.out)
        rw [Hzt.out, ← Hn.out, ← Hht.out] at hof2
        have hb9 := Hblk9.out
        have hr9 := hash_rv hb9 Hof.out.ws_len Hrl8.out
        have e9 : rest.take t ++ (zs.take k ++ rest.drop (t + (zs.take k).length)) = rest.take t ++ zs.take k := by
          rw [Hzt.out, List.drop_eq_nil_of_le (by rw [Hof.out.rest_len, Hfull.out]; omega), List.append_nil]
        have hl9 := Hrl8.out
        rw [e9] at hb9 hr9 hl9
        refine (block_any g ws begun _ (n + k) _ g 9 64 _ _ Hof.out.state hl9 hb9 Hof.out.ws_len hr9 (by omega)).mono ?_
        rintro e w10 ⟨rfl, hb10, ho10⟩
        have HO10 := Lib.hid (HO9.out.trans ho10)
        have HR10 := Lib.hid (HR9.out.only ho10 fun h0 b o h => HN9.out (fun e => h0 (by rw [e]; rfl)) b o h)
        rw [← Hn.out] at hb10
        have HH10 : Hid (HashV w10 g ((xs ++ ys) ++ zs.take k)) := ⟨_, _, _, _, hb10, hof2⟩
        clear hb9 hr9 e9 hl9 hb10 ho10 hof2
        go_wp2_with fail
        refine ⟨⟨ys ++ zs.take k, zs.drop k, A2, c' - k, by rw [Hbs.out, List.append_assoc, List.take_append_drop], by rw [List.length_drop]; omega, by omega, by rw [List.length_drop], ?_, ?_, ?_, HO10.out⟩, by show zs.length - k < zs.length; omega⟩
        · exact HR10.out
        · exact HN9.out
        · rw [← List.append_assoc]; exact HH10.out
      · have hd : ((n : Int) % 64 + (k : Int) == 64) = false := by rw [beq_eq_false_iff_ne]; omega
        have hd2 : ((t : Int) + (k : Int) == 64) = false := by rw [beq_eq_false_iff_ne]; omega
        go_wp2_with (refine wpList_at 20 rfl ?_; refine wp_stop ?_)
        refine ⟨?_⟩
        refine wpList_copy1 rfl (.tmp 18) (.tmp 19) rfl Try.underlying25 size1B (g := g) (off := 9 + t) (dLen := 64 - t) (dCap := 64 - t) (A := some ⟨gz, oz, none⟩) (n := k) (sLen := zs.length) (sCap := c') rfl rfl (cur := hashL ws begun rest n) Hblk.out (us := (zs.take k).map bv) (RVtake Hrz.out _) ?_ Hmin.out ?_ ?_ (map_bv_one _) ?_
        · rw [List.length_map, Hzt.out]
        · rw [List.length_map, Hzt.out]; omega
        · rw [length_hashL, Hof.out.ws_len, Hof.out.rest_len]; omega
        intro w8 hblk8 ho8
        rw [hash_rest _ _ _ _ _ _ Hof.out.ws_len (by rw [Hzt.out, Hof.out.rest_len]; omega)] at hblk8
        have hrl8 : (rest.take t ++ (zs.take k ++ rest.drop (t + (zs.take k).length))).length = 64 := by
          rw [List.length_append, List.length_append, List.length_take, List.length_drop, Hzt.out, Hof.out.rest_len]; omega
        have hc8 := hash_at_n hblk8 Hof.out.ws_len hrl8
        have hf8 := hblk8.frozen 73
        have hg8 := hblk8.lt
        have Hblk8 := Lib.hid hblk8
        have HO8 := Lib.hid (HO.out.trans ho8)
        have HR9 : Hid (RV (w8.setCell ⟨g, 73, none⟩ (.int .i64 ((n : Int) + (k : Int)))) A2 ((zs.drop k).map bv)) := by
          have h := ((Hrz.out.only ho8 fun _ b o h => by cases h; exact hne).far (p := ⟨g, 73, none⟩) (fun b o h => by cases h; exact hne) (.int .i64 ((n : Int) + (k : Int)))).moved Hmv.out (by rw [List.length_map]; omega)
          rw [← List.map_drop] at h
          exact h
        have HN9 : Hid (zs.drop k ≠ [] → ∀ b o, A2 = some ⟨b, o, none⟩ → b ≠ g) := fun _ b o h => by
          obtain ⟨o2, h2⟩ := Hmv.out.block
          rw [h2] at h
          cases h
          exact hne
        have Hrl8 := Lib.hid hrl8
        have Hblk9 : Hid (Blk (w8.setCell ⟨g, 73, none⟩ (.int .i64 ((n : Int) + (k : Int)))) g 51 (hashL ws begun (rest.take t ++ (zs.take k ++ rest.drop (t + (zs.take k).length))) (n + k)).toArray) := by
          have h := hblk8.setL 73 (.int .i64 ((n + k : Nat) : Int))
          rw [hash_n _ _ _ _ _ Hof.out.ws_len hrl8, Int.natCast_add] at h
          exact h
        have HO9 : Hid (Only (fun k => k = g) w (w8.setCell ⟨g, 73, none⟩ (.int .i64 ((n : Int) + (k : Int))))) := HO8.out.setCell (p := ⟨g, 73, none⟩) (.inl rfl) _
        clear hblk8 ho8 hrl8 hcn
        go_wp2_with fail
        have hof2 := Hof.out.some (ys := zs.take k) (by rw [Hzt.out, ← Hn.out, ← Hht.out]; omega)
        rw [← Hn.out, ← Hht.out] at hof2
        replace hof2 : HashOf (xs ++ ys ++ zs.take k) ws begun (rest.take t ++ (zs.take k ++ rest.drop (t + (zs.take k).length))) (n + k) := by
          rw [Hzt.out] at hof2 ⊢
          exact hof2
        have HH9 : Hid (HashV _ g ((xs ++ ys) ++ zs.take k)) := ⟨_, _, _, _, Hblk9.out, hof2⟩
        refine ⟨⟨ys ++ zs.take k, zs.drop k, A2, c' - k, by rw [Hbs.out, List.append_assoc, List.take_append_drop], by rw [List.length_drop]; omega, by omega, by rw [List.length_drop], ?_, ?_, ?_, HO9.out⟩, by show zs.length - k < zs.length; omega⟩
        · exact HR9.out
        · exact HN9.out
        · rw [← List.append_assoc]; exact HH9.out
end Go.Proofs.Ytmlkfkpffbbfaaa
