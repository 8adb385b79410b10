/- The walk of the reference's Of. -/
import Derived.Test.YtmlkfkpffbbfaaaRfA
import Derived.Test.YtmlkfkpffbbfaaaRfB
import Derived.Test.YtmlkfkpffbbfaaaShaLd
namespace Go.Proofs.Ytmlkfkpffbbfaaa
open Go.RowKit

theorem len8 (s : St8) : s.toL.length = 8 := rfl
theorem RV.take {w : World} {A : Option Addr} {vs : List Value} (h : RV w A vs) (n : Nat) : RV w A (vs.take n) := by
  rcases h with h | ⟨b, off, hA, hb, hc⟩
  · left; rw [h, List.take_nil]
  · refine .inr ⟨b, off, hA, hb, fun j v hj => hc j v ?_⟩
    rw [List.getElem?_take] at hj
    split at hj
    · exact hj
    · cases hj
set_option maxHeartbeats 400000 in
theorem refOf_any (b : List UInt8) (A : Option Addr) (c : Nat) (w : World) (hr : RV w A (b.map bv)) (hl : b.length ≤ 70368744177664) (hnil : A = none → b.length = 0 ∧ c = 0) :
    Calls Try.prog 18 #[.slice A b.length c] w fun e w' => e = .returned (aggB (sha b)) ∧ Below w.heap.size w w' := by
  have Hr := Lib.hid hr
  have Hnil := Lib.hid hnil
  clear hr hnil
  go_enter Try.func18, Try.ntmps18
  go_wp2_with (first
    | (refine wpList_allocD 2 rfl rfl 31 rfl (List.replicate 32 (.int .u8 0)) (fun ev w => by kernel_rfl) ?_; intro w1 hblk1 hb1 hz1)
    | (refine wpList_at 8 rfl ?_; refine wpList_build rfl rfl (aggW st0.toL) (by kernel_rfl) ?_)
    | (refine wpList_allocD 3 rfl rfl 48 rfl (List.replicate 8 (.int .u32 0)) (fun ev w => by kernel_rfl) ?_; rintro w2 hblk2 hb2 hz2)
    | (refine wpList_storeB rfl 48 (.tmp 3) (.tmp 8) rfl (st0.toL.map wv) rfl rfl hblk2 (size8.trans rfl) rfl (map_wv_one _) ?_; intro w3 hblk3 ho3 hz3))
  have hB2 : Below w.heap.size w w2 := hb1.trans (hb2.mono hb1.size)
  have hB3 : Below w.heap.size w w3 := hB2.trans (ho3.below (by omega) fun k hk => by omega)
  have hd3 : Blk w3 w.heap.size 31 (List.replicate 32 (.int .u8 0)).toArray := (hblk1.below hb2 (by omega)).only ho3 (by omega)
  rw [hz1] at hblk3
  have HB3 := Lib.hid hB3
  have HD3 := Lib.hid hd3
  have HS3 := Lib.hid hblk3
  have hsz3 : w.heap.size + 2 ≤ w3.heap.size := by omega
  clear hblk1 hb1 hz1 hblk2 hb2 hz2 ho3 hz3 hblk3 hB2 hB3 hd3
  go_wp2_with fail
  refine (filled_any b A c w3 (Hr.out.below HB3.out) hl Hnil.out).mono ?_
  rintro e w4 ⟨A4, c4, rfl, hown4, hb4⟩
  have hB4 : Below w.heap.size w w4 := HB3.out.trans (hb4.mono (by omega))
  have hlen : (b ++ tailL b.length).length = b.length + (9 + zerosN b.length) := by rw [List.length_append, length_tailL]
  obtain ⟨N, hN⟩ : ∃ N, N = (b ++ tailL b.length).length / 64 := ⟨_, rfl⟩
  have hpad := padded b.length
  have hz : zerosN b.length < 64 := by unfold zerosN; omega
  have hN64 : (b ++ tailL b.length).length = 64 * N := by omega
  have hsha : sha b = (runB st0 (b ++ tailL b.length) N).bytes := by unfold sha; rw [hN, hlen]
  have Hsha := Lib.hid hsha
  have Hcap := Lib.hid (own_caps hown4)
  rw [hN64] at hown4 ⊢
  have Hrow4 := Lib.hid (RV.of_own hown4)
  have Hbase := Lib.hid (Own.row hown4)
  have HB4 := Lib.hid hB4
  have HN64 := Lib.hid hN64
  have hNb : 64 * N ≤ 70368744177664 + 73 := by omega
  have HD4 := Lib.hid (HD3.out.below hb4 (by omega))
  have hS4 := HS3.out.below hb4 (by omega)
  have hsz4 : w.heap.size + 2 ≤ w4.heap.size := by have := hb4.size; omega
  generalize b ++ tailL b.length = l at *
  clear hsha hown4 hb4 hlen hpad hz hN64 hB4 HS3 HD3 hN
  go_wp2_with fail
  go_loopw [5] (fun i wr => ∃ k : Nat, k ≤ N ∧ i = .int .i64 (64 * k : Nat) ∧ Blk wr (w.heap.size + 1) 48 ((runB st0 l k).toL.map wv).toArray ∧ Only (fun k => k = w.heap.size + 1) w4 wr) (fun i _ => 64 * N - (intOf i).toNat)
  case atStart => exact ⟨0, Nat.zero_le _, rfl, hS4, Only.refl _ _⟩
  case round =>
    obtain ⟨k, hk, rfl, hblk, hO⟩ := hrel
    have hsr := hO.size
    have hgl := hblk.lt
    by_cases hlt : k < N
    · obtain ⟨i, hi⟩ : ∃ i, i = 64 * k := ⟨_, rfl⟩
      rw [← hi]
      have g1 : (i : Int) < ((64 * N : Nat) : Int) := by omega
      have hcap := Hcap.out
      have hln := HN64.out
      obtain ⟨A5, hsl0, hmv⟩ := run_to sliceB sizeB A4 (64 * N) c4 i (i + 64) (by omega) (by omega)
      have hr5 : ∀ w', Below w4.heap.size w4 w' → RV w' A5 (((l.drop i).take 64).map bv) := fun w' hb => by
        have h := ((Hrow4.out.below hb).moved hmv (by rw [List.length_map]; exact hcap.1)).take 64
        rw [List.map_take, List.map_drop]
        exact h
      rw [Nat.add_sub_cancel_left] at hsl0
      have hsl : ∀ w', (Instr.slice 25 (.slice A4 (64 * N) c4) (some (.int .i64 (i : Int))) (some (.int .i64 ((i : Int) + 64))) none).run Try.prog w' = .ok (.slice A5 64 (c4 - i)) w' := hsl0
      have hrun : runB st0 l (k + 1) = compress (runB st0 l k) ((l.drop i).take 64) := by rw [runB, hi]
      have hbl : ((l.drop i).take 64).length = 64 := by rw [List.length_take, List.length_drop]; omega
      have hO4 : Below w4.heap.size w4 wr ∨ True := .inr trivial
      have hBr : ∀ w', Below wr.heap.size wr w' → RV w' A5 (((l.drop i).take 64).map bv) := fun w' hb => by
        refine RV.below (w := wr) ?_ hb
        refine (hr5 w4 (Below.refl _ _)).only hO fun h0 b' o' h => ?_
        obtain ⟨b4, o4, hA4, -, -⟩ := Hrow4.out.at_ (by rw [List.length_map]; omega)
        subst hA4
        obtain ⟨o5, h5⟩ := hmv.block
        rw [h5] at h
        cases h
        have : w3.heap.size ≤ b' := (Hbase.out _ rfl).1
        omega
      have hblc := refBlock_any (runB st0 l k) ((l.drop i).take 64) hbl A5 (c4 - i)
      have Hblc := Lib.hid fun w' hb => hblc w' (hBr w' hb) (by omega)
      have hl1 : ∀ x : BW wr.heap.size wr, (Instr.loadAt 48 (.pointer (some ⟨w.heap.size + 1, 0, none⟩))).run Try.prog x.w = .ok (aggW (runB st0 l k).toL) x.w :=
        BW.load hblk hgl Try.underlying48 rfl (size8.trans rfl)
      have Hrun := Lib.hid hrun
      have Hblk := Lib.hid hblk
      have Hi := Lib.hid hi
      clear hBr hblc hr5 hmv hsl0 hrun hbl hcap hln hO4 hblk hi
      generalize (runB st0 l k) = sk at *
      generalize (l.drop i).take 64 = bk at *
      generalize compress sk bk = sn at *
      go_wp2_with fail
      refine region_inB_tail 7 wr.heap.size wr (Below.refl _ _) (by kernel_rfl) (by kernel_rfl) ?_
      simp only [List.take_succ_cons, List.take_zero, List.drop_succ_cons, List.drop_zero]
      repeat (first
        | (go_big_quiet_want; refine quiet_load 48 _ rfl (p := .pointer (some ⟨w.heap.size + 1, 0, none⟩)) rfl (fun _ ⟨x, hx⟩ => hx ▸ hl1 x) ?_; simp only [Act.put, List.setIfInBounds_toArray, List.set_cons_zero, List.set_cons_succ]; go_big_quiet_on)
        | go_big_quiet_step (with_reducible exact Calls.inBat _ (Hblc.out _ (BW.h _)) (Nat.le_refl _)))
      refine wpQuiet_nil ?_
      intro w5 hb5
      have Hblk5 := Lib.hid (Hblk.out.below hb5 hgl)
      have HO5 := Lib.hid (hO.trans (Only.of_fresh hb5))
      clear hl1 hsl hO
      refine wpList_storeB rfl 48 (.tmp 3) (.tmp 23) rfl (sn.toL.map wv) rfl rfl Hblk5.out (size8.trans (by rw [List.length_map, len8])) (by rw [List.size_toArray, List.length_map, List.length_map, len8, len8]) (map_wv_one _) ?_
      intro w6 hblk6 ho6 hz6
      have HB6 := Lib.hid hblk6
      have HO6 := Lib.hid (HO5.out.trans ho6)
      clear hblk6 ho6 hz6 hb5
      go_wp2_with fail
      refine ⟨⟨k + 1, hlt, ?_, by rw [Hrun.out]; exact HB6.out, HO6.out⟩, ?_⟩
      · have := Hi.out
        congr 1
        omega
      · have := Hi.out
        simp [intOf]
        omega
    · obtain rfl : k = N := by omega
      have hB5 : Below w.heap.size w wr := HB4.out.trans (hO.below (by omega) fun k hk => by omega)
      have HB5 := Lib.hid hB5
      have HD5 := Lib.hid (HD4.out.only hO (by omega))
      have HS5 := Lib.hid hblk
      have hnlt : ¬ (((64 * k : Nat) : Int) < ((64 * k : Nat) : Int)) := by omega
      obtain ⟨s, hs⟩ : ∃ s, s = runB st0 l k := ⟨_, rfl⟩
      rw [← hs] at HS5 Hsha
      clear hB5 hO hblk hs
      go_wp2_with (refine wpList_allocD 6 rfl rfl 31 rfl (List.replicate 32 (.int .u8 0)) (fun ev w => by kernel_rfl) ?_; intro w7 hblk7 hb7 hz7)
      have HB7 := Lib.hid (HB5.out.trans (hb7.mono (by omega)))
      have HD7 := Lib.hid (HD5.out.below hb7 (by omega))
      have HS7 := Lib.hid (HS5.out.below hb7 (by omega))
      have hsz7 : wr.heap.size < w7.heap.size := by omega
      have Hblk7 := Lib.hid hblk7
      clear hb7 hz7 hblk7
      obtain ⟨wq, hwq⟩ : ∃ wq, wq = wr := ⟨_, rfl⟩
      subst hwq
      go_loopw [7] (fun i wr => ∃ k : Nat, k ≤ 32 ∧ i = .int .i64 k ∧ Blk wr wq.heap.size 31 ((digL s.bytes k).map bv).toArray ∧ Only (fun k => k = wq.heap.size) w7 wr) (fun i _ => 32 - (intOf i).toNat)
      case atStart => exact ⟨0, by omega, rfl, Hblk7.out, Only.refl _ _⟩
      case round =>
        obtain ⟨i, hi, rfl, hblk, hO⟩ := hrel
        have hsr := hO.size
        by_cases hlt : i < 32
        · have g2 : (i : Int) < 32 := by omega
          obtain ⟨q, hq⟩ : ∃ q, q = i / 4 := ⟨_, rfl⟩
          obtain ⟨m, hm⟩ : ∃ m, m = i % 4 := ⟨_, rfl⟩
          obtain ⟨r, hr⟩ : ∃ r, r = 3 - m := ⟨_, rfl⟩
          have hq8 : q < 8 := by omega
          have hq81 : (q : Int) < 8 := by omega
          have e1 : (i : Int).tdiv 4 = (q : Int) := by rw [Int.tdiv_eq_ediv_of_nonneg (by omega)]; omega
          have e2 : (i : Int).tmod 4 = (m : Int) := by rw [Int.tmod_eq_emod_of_nonneg (by omega)]; omega
          have e3 : (3 : Int) - (m : Int) = (r : Int) := by omega
          have e4 : IntKind.i64.wrap (q : Int) = (q : Int) := IntWalk.i64_in _ (by omega)
          have hcs := (HS7.out.only hO (by omega)).word (k := q) hq8
          have hba := bytes_at s q m hq8 (by omega)
          rw [show 4 * q + m = i from by omega, ← hr] at hba
          have hf := hblk.frozen i
          obtain ⟨v, hcv⟩ := hblk.some (i := i) (by rw [List.length_map, length_dig _ _ (by omega) (length_bytes _)]; omega)
          have hgl5 := hblk.lt
          have Hba := Lib.hid hba
          have Hblk10 := Lib.hid hblk
          have HO10 := Lib.hid hO
          generalize s.toL[q] = x at *
          clear hblk hO hba hq hm hr
          go_wp2_with fail
          refine ⟨⟨i + 1, by omega, by go_num, ?_, HO10.out.setCell (p := ⟨wq.heap.size, i, none⟩) (.inl rfl) _⟩, by simp [intOf]; omega⟩
          have h := Hblk10.out.setL i (bv (UInt8.ofNat (x.toNat / 2 ^ (8 * r))))
          rw [← List.map_set, dig_set _ _ hlt (length_bytes _) _ Hba.out, bv_shw] at h
          exact h
        · obtain rfl : i = 32 := by omega
          rw [show digL s.bytes 32 = s.bytes from by unfold digL; rw [List.take_of_length_le (by rw [length_bytes]; omega)]; rfl, ← Hsha.out] at hblk
          have hsd : (Try.prog.info? 31).map (·.size) = some ((sha b).map bv).length := by
            rw [List.length_map, length_sha]
            kernel_rfl
          have h9d := HD7.out.only hO (by omega)
          have HB9 := Lib.hid (HB7.out.trans (hO.below (by have := HB7.out.size; omega) fun k hk => by omega))
          have Hsd := Lib.hid hsd
          have H9d := Lib.hid h9d
          have Hr9 := Lib.hid (range_blk hblk)
          clear hsd h9d hblk hO
          go_wp2_with (refine wpList_at 40 rfl ?_; refine wp_stop ?_)
          refine ⟨?_⟩
          refine wpList_load_mid rfl 31 (.tmp 6) rfl wq.heap.size 0 rfl ((sha b).map bv) _ Hr9.out Try.underlying31 rfl Hsd.out ?_
          refine wpList_storeB rfl 31 (.tmp 2) (.tmp 40) rfl ((sha b).map bv) rfl rfl H9d.out Hsd.out (by rw [List.length_map, length_sha]; rfl) (map_bv_one _) ?_
          intro w10 hblk10 ho10 hz10
          go_wp2_with fail
          have hB10 : Below w.heap.size w w10 := HB9.out.trans (ho10.below HB9.out.size fun k hk => by omega)
          refine bodyPost_ret (v := aggB (sha b)) (results_cell_row rfl _ _ w.heap.size _ _ _ _ rfl hblk10 Try.underlying31 rfl (Hsd.out.trans (by simp))) rfl ?_
          exact ⟨rfl, hB10⟩
end Go.Proofs.Ytmlkfkpffbbfaaa
