/- The walk of the reference's block. -/
import Derived.Test.YtmlkfkpffbbfaaaShaB
import Derived.Test.YtmlkfkpffbbfaaaInB
import Derived.Test.YtmlkfkpffbbfaaaShaSum
namespace Go.Proofs.Ytmlkfkpffbbfaaa
open Go.RowKit
attribute [local go_sem] wxor32 wand32 wadd32 shr3 shr10 xor_max

theorem or_add (a b i : Nat) (h : b < 2 ^ i) : a * 2 ^ i ||| b = a * 2 ^ i + b := by
  rw [Nat.mul_comm, ← Nat.two_pow_add_eq_or_of_lt h]
theorem toNat_or32 (a b : Nat) (ha : a < 4294967296) (hb : b < 4294967296) : (UInt32.ofNat a ||| UInt32.ofNat b).toNat = a ||| b := by
  rw [UInt32.toNat_or, UInt32.toNat_ofNat_of_lt' ha, UInt32.toNat_ofNat_of_lt' hb]
theorem wordK_nat (b : List UInt8) (t : Nat) : (wordK b t 4).toNat = (b.getD (4 * t) 0).toNat * 16777216 + (b.getD (4 * t + 1) 0).toNat * 65536 + (b.getD (4 * t + 2) 0).toNat * 256 + (b.getD (4 * t + 3) 0).toNat := by
  have h0 := (b.getD (4 * t) 0).toNat_lt
  have h1 := (b.getD (4 * t + 1) 0).toNat_lt
  have h2 := (b.getD (4 * t + 2) 0).toNat_lt
  have h3 := (b.getD (4 * t + 3) 0).toNat_lt
  have step : ∀ (k : Nat) (v : Nat), (wordK b t k).toNat = v → v < 16777216 → ∀ u : UInt8, u = b.getD (4 * t + k) 0 → (wordK b t (k + 1)).toNat = v * 256 + u.toNat := by
    intro k v hv hlt u hu
    have hu8 := u.toNat_lt
    rw [wordK, ← hu, hv, toNat_or32 _ _ (by omega) (by omega)]
    exact or_add v u.toNat 8 hu8
  have e1 := step 0 0 rfl (by omega) _ rfl
  have e2 := step 1 _ e1 (by simp only [Nat.add_zero]; omega) _ rfl
  have e3 := step 2 _ e2 (by simp only [Nat.add_zero]; omega) _ rfl
  have e4 := step 3 _ e3 (by simp only [Nat.add_zero]; omega) _ rfl
  rw [e4]
  simp only [Nat.add_zero]
  omega
theorem or32 (a b : Nat) (ha : a < 4294967296) (hb : b < 4294967296) : bits .or .u32 (a : Int) (b : Int) = ((a ||| b : Nat) : Int) := by
  have h := bits_or32 (UInt32.ofNat a) (UInt32.ofNat b)
  rw [UInt32.toNat_ofNat_of_lt' ha, UInt32.toNat_ofNat_of_lt' hb, toNat_or32 a b ha hb] at h
  exact h
/-- The word of four bytes, as the reference makes it. -/
theorem four_word (b : List UInt8) (t : Nat) (b0 b1 b2 b3 : Nat) (e0 : b0 = (b.getD (4 * t) 0).toNat) (e1 : b1 = (b.getD (4 * t + 1) 0).toNat) (e2 : b2 = (b.getD (4 * t + 2) 0).toNat) (e3 : b3 = (b.getD (4 * t + 3) 0).toNat) :
    bits .or .u32 (bits .or .u32 (bits .or .u32 ((b0 : Int) * 16777216) ((b1 : Int) * 65536)) ((b2 : Int) * 256)) (b3 : Int) = ((wordK b t 4).toNat : Int) := by
  have h0 : b0 < 256 := by rw [e0]; exact UInt8.toNat_lt _
  have h1 : b1 < 256 := by rw [e1]; exact UInt8.toNat_lt _
  have h2 : b2 < 256 := by rw [e2]; exact UInt8.toNat_lt _
  have h3 : b3 < 256 := by rw [e3]; exact UInt8.toNat_lt _
  rw [wordK_nat, ← e0, ← e1, ← e2, ← e3, show (b0 : Int) * 16777216 = ((b0 * 16777216 : Nat) : Int) from by omega, show (b1 : Int) * 65536 = ((b1 * 65536 : Nat) : Int) from by omega,
    show (b2 : Int) * 256 = ((b2 * 256 : Nat) : Int) from by omega, or32 _ _ (by omega) (by omega), show b0 * 16777216 = b0 * 2 ^ 24 from rfl, or_add b0 _ 24 (by omega), or32 _ _ (by omega) (by omega),
    show b0 * 2 ^ 24 + b1 * 65536 = (b0 * 256 + b1) * 2 ^ 16 from by omega, or_add _ _ 16 (by omega), or32 _ _ (by omega) (by omega),
    show (b0 * 256 + b1) * 2 ^ 16 + b2 * 256 = (b0 * 65536 + b1 * 256 + b2) * 2 ^ 8 from by omega, or_add _ _ 8 (by omega)]

theorem ex_word (xs : List UInt32) (k : Nat) (hk : k < xs.length) : ∃ wt : UInt32, (∀ (w : World) (g : Nat) (ty : TypeId), Blk w g ty (xs.map wv).toArray → w.cell? ⟨g, k, none⟩ = some (.int .u32 (wt.toNat : Int))) ∧ xs[k]?.getD 0 = wt :=
  ⟨xs[k], fun _ _ _ h => h.word hk, getD_word xs k hk⟩
theorem refRound_ex (t : Nat) (h : t < 64) : ∃ kt : UInt32, (∀ w, Calls Try.prog 44 #[.int .i64 t] w fun e w' => e = .returned (.int .u32 (kt.toNat : Int)) ∧ Below w.heap.size w w') ∧ sumK[t]?.getD 0 = kt :=
  ⟨sumK[t], fun w => refRound_any t w h, getD_word sumK t h⟩
theorem not_max (x : UInt32) : bits .xor .u32 (if IntKind.u32.signed = true then -1 else IntKind.u32.max) (x.toNat : Int) = ((wnot x).toNat : Int) := xor_max x
theorem p_ref (s : St8) (k w : UInt32) : (((wadd s.h (wxor (wxor (rotr s.e 6) (rotr s.e 11)) (rotr s.e 25))).toNat + bits .xor .u32 ((wand s.e s.f).toNat : Int) (bits .and .u32 (bits .xor .u32 (if IntKind.u32.signed = true then -1 else IntKind.u32.max) (s.e.toNat : Int)) (s.g.toNat : Int)) + (k.toNat : Int)) % 4294967296 + (w.toNat : Int)) % 4294967296 = ((stepP s k w).toNat : Int) := by
  rw [not_max, wand32, wxor32]
  unfold stepP
  simp only [wadd_int]; omega
theorem mix_cell {w : World} {g : Nat} {ty : TypeId} (s v : St8) (t : Nat) (h : t < 8) (hb : Blk w g ty (((s.add v).toL.take t ++ s.toL.drop t).map wv).toArray) : w.cell? ⟨g, t, none⟩ = some (.int .u32 ((s.toL[t]'h).toNat : Int)) := by
  rw [hb.at_, List.getElem?_map, List.getElem?_append_right (by rw [List.length_take]; omega), List.length_take, Nat.min_eq_left (by show t ≤ 8; omega), Nat.sub_self, List.getElem?_drop, Nat.add_zero, List.getElem?_eq_getElem h]
  rfl
theorem mix_set {w : World} {g : Nat} {ty : TypeId} (s v : St8) (t : Nat) (h : t < 8) (hb : Blk w g ty (((s.add v).toL.take t ++ s.toL.drop t).map wv).toArray) :
    Blk (w.setCell ⟨g, t, none⟩ (.int .u32 ((wadd (s.toL[t]'h) (v.toL[t]'h)).toNat : Int))) g ty (((s.add v).toL.take (t + 1) ++ s.toL.drop (t + 1)).map wv).toArray := by
  have hz : t < (s.add v).toL.length := h
  have h1 := hb.setL t (wv ((s.add v).toL[t]'hz))
  rw [← List.map_set, mixed_set (s.add v).toL s.toL t hz rfl] at h1
  have e : (s.add v).toL[t]'hz = wadd (s.toL[t]'h) (v.toL[t]'h) := add_at s v t h
  rw [e] at h1
  exact h1
theorem Calls.drewAt {P : Program} {f : FuncId} {args : Array Value} {w : World} {v : Value} {m : Nat} (h : Calls P f args (w.drewN m) fun e w' => e = .returned v ∧ ∃ k, w' = (w.drewN m).drewN k) :
    Calls P f args (w.drewN m) fun e w'' => e = .returned v ∧ ∃ k, w'' = w.drewN k :=
  h.mono fun _ _ ⟨he, k, hb⟩ => ⟨he, m + k, by rw [hb, World.drewN_drewN]⟩
/-- The cells while the schedule is laid: the next one, whatever it is. -/
theorem sched_next {w : World} {g : Nat} {ty : TypeId} {b : List UInt8} {t : Nat} (h : Blk w g ty ((sched b t ++ List.replicate (64 - t) 0).map wv).toArray) (h2 : t < 64) :
    Blk (w.setCell ⟨g, t, none⟩ (.int .u32 ((if t < 16 then wordK b t 4 else nextW (sched b t) t).toNat : Int))) g ty ((sched b (t + 1) ++ List.replicate (64 - (t + 1)) 0).map wv).toArray := by
  have h3 := h.setL t (wv (if t < 16 then wordK b t 4 else nextW (sched b t) t))
  obtain ⟨m, hm⟩ : ∃ m, 64 - t = m + 1 := ⟨63 - t, by omega⟩
  have hm2 : 64 - (t + 1) = m := by omega
  rw [hm, List.replicate_succ, ← List.map_set, List.set_append_right _ _ (by rw [length_sched]; omega), length_sched, Nat.sub_self, List.set_cons_zero] at h3
  rw [hm2, sched, List.append_assoc]
  exact h3

set_option maxRecDepth 100000 in
set_option maxHeartbeats 4000000 in
theorem refBlock_any (s0 : St8) (b : List UInt8) (hb : b.length = 64) (A : Option Addr) (c : Nat) (w : World) (hr : RV w A (b.map bv)) (hc : 64 ≤ c) :
    Calls Try.prog 37 #[aggW s0.toL, .slice A 64 c] w fun e w' => e = .returned (aggW (compress s0 b).toL) ∧ Below w.heap.size w w' := by
  obtain ⟨gb, off, rfl, hgb, hcells⟩ := hr.at_ (by rw [List.length_map, hb]; omega)
  have HC : Hid (∀ wr, Below w.heap.size w wr → ∀ j, j < 64 → wr.cell? ⟨gb, off + j, none⟩ = some (.int .u8 ((b.getD j 0).toNat : Int))) := fun wr ho j hj => by
    rw [(bcell ho).1 _ _ hgb]
    refine hcells j _ ?_
    rw [List.getElem?_map, List.getElem?_eq_getElem (by omega), List.getD_eq_getElem?_getD, List.getElem?_eq_getElem (by omega)]
    rfl
  have hc1 : (64 : Int) ≤ c := by omega
  clear hr hcells
  go_enter Try.func37, Try.ntmps37
  go_wp2_with (first
    | (refine wpList_at 2 rfl ?_; refine wpList_boxB rfl 48 (.tmp 0) rfl (s0.toL.map wv) rfl ?_; intro w1 hblk1 hb1 hz1)
    | (refine wpList_allocD 4 rfl rfl 48 rfl (List.replicate 8 (.int .u32 0)) (fun ev w => by kernel_rfl) ?_; rintro w2 hblk2 hb2 hz2)
    | (refine wpList_allocD 5 rfl rfl 78 rfl (List.replicate 64 (.int .u32 0)) (fun ev w => by kernel_rfl) ?_; rintro w3 hblk3 hb3 hz3))
  have hB3 : Below w.heap.size w w3 := (hb1.trans (hb2.mono hb1.size)).trans (hb3.mono (by omega))
  have hs1 : Blk w3 w.heap.size 48 (s0.toL.map wv).toArray := (hblk1.below hb2 (by omega)).below hb3 (by omega)
  have hs2 : Blk w3 (w.heap.size + 1) 48 (List.replicate 8 (.int .u32 0)).toArray := by rw [← hz1]; exact hblk2.below hb3 (by omega)
  have hs3 : Blk w3 (w.heap.size + 2) 78 (List.replicate 64 (.int .u32 0)).toArray := by rw [show w.heap.size + 2 = w2.heap.size from by omega]; exact hblk3
  have HB3 := Lib.hid hB3
  have HS1 := Lib.hid hs1
  have HS2 := Lib.hid hs2
  have hz : w3.heap.size = w.heap.size + 3 := by omega
  clear hblk1 hblk2 hblk3 hb1 hb2 hb3 hB3 hs1 hs2
  go_loopw [6] (fun i wr => ∃ t : Nat, t ≤ 64 ∧ i = .int .i64 t ∧ Blk wr (w.heap.size + 2) 78 ((sched b t ++ List.replicate (64 - t) 0).map wv).toArray ∧ Only (fun k => k = w.heap.size + 2) w3 wr) (fun i _ => 64 - (intOf i).toNat)
  case atStart => exact ⟨0, by omega, rfl, by simpa [sched, wv] using hs3, Only.refl _ _⟩
  case round =>
    obtain ⟨t, ht, rfl, hblk, hO⟩ := hrel
    have hsz := hO.size
    by_cases hlt : t < 64
    · have hlt1 : (t : Int) < 64 := by omega
      have hBr : Below w.heap.size w wr := HB3.out.trans (hO.below (by omega) fun k hk => by omega)
      have hfz := hblk.frozen t
      obtain ⟨v, hcv⟩ := hblk.some (i := t) (by rw [List.length_map, List.length_append, length_sched, List.length_replicate]; omega)
      have hgl := hblk.lt
      have hset := sched_next hblk hlt
      by_cases h16 : t < 16
      · have h16i : (t : Int) < 16 := by omega
        have c0 := HC.out _ hBr (4 * t) (by omega)
        have c1 := HC.out _ hBr (4 * t + 1) (by omega)
        have c2 := HC.out _ hBr (4 * t + 2) (by omega)
        have c3 := HC.out _ hBr (4 * t + 3) (by omega)
        have hw4 := four_word b t _ _ _ _ rfl rfl rfl rfl
        rw [if_pos h16] at hset
        have Hset := Lib.hid hset
        have u0 := (b.getD (4 * t) 0).toNat_lt
        have u1 := (b.getD (4 * t + 1) 0).toNat_lt
        have u2 := (b.getD (4 * t + 2) 0).toNat_lt
        have u3 := (b.getD (4 * t + 3) 0).toNat_lt
        generalize (b.getD (4 * t) 0).toNat = b0 at *
        generalize (b.getD (4 * t + 1) 0).toNat = b1 at *
        generalize (b.getD (4 * t + 2) 0).toNat = b2 at *
        generalize (b.getD (4 * t + 3) 0).toNat = b3 at *
        clear hset hBr
        go_wp2_with fail
        refine region_quiet_tail 35 (fun w' => ∃ m, w' = wr.drewN m) (by kernel_rfl) (by kernel_rfl) ⟨1, rfl⟩ ?_
        simp only [List.take_succ_cons, List.take_zero, List.drop_succ_cons, List.drop_zero]
        repeat (go_big_quiet_step (fail))
        refine wpQuiet_nil ?_
        rintro _ ⟨m, rfl⟩
        go_wp2_with fail
        go_roundw
        case rel =>
          have hOd : Only (fun k => k = w.heap.size + 2) w3 (wr.drewN m) := ⟨hO.os, hO.tape, hO.output, hO.size, hO.block⟩
          exact ⟨t + 1, by omega, by go_num, Hset.out, hOd.setCell (p := ⟨w.heap.size + 2, t, none⟩) (.inl rfl) _⟩
        case measure => simp [intOf]; omega
      · have g1 : (16 : Int) ≤ t := by omega
        have h16i : ¬ (t : Int) < 16 := by omega
        rw [if_neg h16] at hset
        have c1 := sched_cell hblk (t - 16) (by omega)
        have c2 := sched_cell hblk (t - 15) (by omega)
        have c3 := sched_cell hblk (t - 7) (by omega)
        have c4 := sched_cell hblk (t - 2) (by omega)
        have Hset := Lib.hid hset
        clear hset hBr h16
        go_wp2_with fail
        refine region_quiet_tail 29 (fun w' => ∃ m, w' = wr.drewN m) (by kernel_rfl) (by kernel_rfl) ⟨1, rfl⟩ ?_
        simp only [List.take_succ_cons, List.take_zero, List.drop_succ_cons, List.drop_zero]
        repeat (go_big_quiet_step (exact Calls.drewAt (turned_any _ _ _ (by decide) (by decide))))
        refine wpQuiet_nil ?_
        rintro _ ⟨m, rfl⟩
        go_wp2_with fail
        go_roundw
        case rel =>
          have hOd : Only (fun k => k = w.heap.size + 2) w3 (wr.drewN m) := ⟨hO.os, hO.tape, hO.output, hO.size, hO.block⟩
          exact ⟨t + 1, by omega, by go_num, Hset.out, hOd.setCell (p := ⟨w.heap.size + 2, t, none⟩) (.inl rfl) _⟩
        case measure => simp [intOf]; omega
    · obtain rfl : t = 64 := by omega
      rw [Nat.sub_self, List.replicate_zero, List.append_nil] at hblk
      have hs1 := HS1.out.only hO (by omega)
      have hs2 := HS2.out.only hO (by omega)
      have hB4 : Below w.heap.size w wr := HB3.out.trans (hO.below (by omega) fun k hk => by omega)
      have HS1 := Lib.hid hs1
      have HS2 := Lib.hid hs2
      have HB4 := Lib.hid hB4
      have HW := Lib.hid hblk
      clear hs2 hblk hO hB4
      go_wp2_with (refine wpList_at 94 rfl ?_; refine wp_stop ?_)
      refine ⟨?_⟩
      refine wpList_load_mid rfl 48 (.tmp 2) rfl w.heap.size 0 rfl (s0.toL.map wv) _ (range_blk hs1) Try.underlying48 rfl (size8.trans rfl) ?_
      go_wp2_with (first
        | (refine wpList_allocD 9 rfl rfl 48 rfl (List.replicate 8 (.int .u32 0)) (fun ev w => by kernel_rfl) ?_; rintro w6 hblk6 hb6 hz6)
        | (refine wpList_storeB rfl 48 (.tmp 9) (.tmp 94) rfl (s0.toL.map wv) rfl rfl hblk6 (size8.trans rfl) rfl (map_wv_one _) ?_; intro w7 hblk7 ho7 hz7))
      have hsz7 : w7.heap.size = wr.heap.size + 1 := by omega
      have hB7 : Below w.heap.size w w7 := (HB4.out.trans (hb6.mono (by omega))).trans (ho7.below (by omega) fun k hk => by omega)
      have HS1 := Lib.hid ((HS1.out.below hb6 (by omega)).only ho7 (by omega))
      have HS2 := Lib.hid ((HS2.out.below hb6 (by omega)).only ho7 (by omega))
      have HW := Lib.hid ((HW.out.below hb6 (by omega)).only ho7 (by omega))
      have HB7 := Lib.hid hB7
      obtain ⟨gv, hgv⟩ : ∃ gv, gv = wr.heap.size := ⟨_, rfl⟩
      rw [← hgv] at hblk7 hsz7 ⊢
      have hgv3 : w.heap.size + 3 ≤ gv := by omega
      clear hblk6 hb6 ho7 hB7 hs1 HB4 hgv
      go_loopw [10] (fun i wr => ∃ t : Nat, t ≤ 64 ∧ i = .int .i64 t ∧ Blk wr gv 48 ((run8 s0 (sched b 64) t).toL.map wv).toArray ∧ Only (fun k => k = gv) w7 wr) (fun i _ => 64 - (intOf i).toNat)
      case atStart => exact ⟨0, by omega, rfl, hblk7, Only.refl _ _⟩
      case round =>
        obtain ⟨t, ht, rfl, hblk, hO⟩ := hrel
        have hsr := hO.size
        have hgs := hblk.lt
        by_cases hlt : t < 64
        · have g1 : (t : Int) < 64 := by omega
          have hW := HW.out.only hO (by omega)
          obtain ⟨sv, hsv⟩ : ∃ sv, sv = run8 s0 (sched b 64) t := ⟨_, rfl⟩
          have Hsv := Lib.hid hsv
          rw [← hsv] at hblk
          clear hsv
          obtain ⟨k0, k1, k2, k3, k4, k5, k6, k7⟩ := st8_cells hblk
          have j5 : ∀ x : BW wr.heap.size wr, x.w.cell? ⟨gv, 5, none⟩ = some (.int .u32 (sv.f.toNat : Int)) := fun x => (x.cell hgs).trans k5
          have j6 : ∀ x : BW wr.heap.size wr, x.w.cell? ⟨gv, 6, none⟩ = some (.int .u32 (sv.g.toNat : Int)) := fun x => (x.cell hgs).trans k6
          have j7 : ∀ x : BW wr.heap.size wr, x.w.cell? ⟨gv, 7, none⟩ = some (.int .u32 (sv.h.toNat : Int)) := fun x => (x.cell hgs).trans k7
          have hlw : t < (sched b 64).length := Nat.lt_of_lt_of_eq hlt (length_sched b 64).symm
          obtain ⟨kt, hkt, hkD⟩ := refRound_ex t hlt
          have Hkt := Lib.hid hkt
          have HkD := Lib.hid hkD
          clear hkt hkD
          obtain ⟨wt, hcw, hwt⟩ := ex_word (sched b 64) t hlw
          have jw : ∀ x : BW wr.heap.size wr, x.w.cell? ⟨w.heap.size + 2, t, none⟩ = some (.int .u32 (wt.toNat : Int)) := fun x => hcw _ _ _ (x.blk hW hW.lt)
          have Hwt := Lib.hid hwt
          have Hblk := Lib.hid hblk
          clear hwt hW hblk hcw hlw
          go_wp2_with fail
          refine region_inB wr.heap.size wr (Below.refl _ _) (by kernel_rfl) (by kernel_rfl) ?_
          repeat (go_big_quiet_step (first
            | with_reducible exact Calls.inBat _ (Hkt.out _) (Nat.le_refl _)
            | exact Calls.inBdrew _ (turned_any _ _ _ (by decide) (by decide))))
          refine wpQuiet_nil ?_
          intro w8 hb8
          have hblk8 := Hblk.out.below hb8 hgs
          have HO8 := Lib.hid (hO.trans (Only.of_fresh hb8))
          have hgs8 := hblk8.lt
          have Hblk8 := Lib.hid hblk8
          clear k0 k1 k2 k3 k4 k5 k6 k7 j5 j6 j7 jw Hblk hb8 hO
          obtain ⟨k0, k1, k2, k3, k4, k5, k6, k7⟩ := st8_cells hblk8
          clear hblk8
          rw [p_ref sv kt wt]
          generalize hpw : stepP sv kt wt = pw
          have Hpw := Lib.hid hpw
          clear hpw
          iterate 3 (first | go_values | go_skip | go_guarded | go_step | go_upon | go_back)
          refine region_quiet (fun w' => ∃ m, w' = w8.drewN m) (by kernel_rfl) (by kernel_rfl) ⟨1, rfl⟩ ?_
          repeat (go_big_quiet_step (exact Calls.drewAt (turned_any _ _ _ (by decide) (by decide))))
          refine wpQuiet_nil ?_
          rintro _ ⟨m1, rfl⟩
          have hblkd : Blk (w8.drewN m1) gv 48 (sv.toL.map wv).toArray := Hblk8.out
          have hOd : Only (fun k => k = gv) w7 (w8.drewN m1) := ⟨HO8.out.os, HO8.out.tape, HO8.out.output, HO8.out.size, HO8.out.block⟩
          have Hblkd := Lib.hid hblkd
          have HOd := Lib.hid hOd
          clear hblkd hOd
          rw [wadd32]
          generalize hqw : wadd (wxor (wxor (rotr sv.a 2) (rotr sv.a 13)) (rotr sv.a 22)) (wxor (wxor (wand sv.a sv.b) (wand sv.a sv.c)) (wand sv.b sv.c)) = qw
          have Hqw := Lib.hid hqw
          clear hqw
          repeat (first | (refine wpList_atStore 48 (.tmp 9) (.tmp 173) rfl ?_; refine wp_stop ?_) | go_values | go_skip | go_guarded | go_step | go_upon | go_back)
          refine ⟨?_⟩
          refine wpList_storeB rfl 48 (.tmp 9) (.tmp 173) rfl ((St8.mk (wadd pw qw) sv.a sv.b sv.c (wadd sv.d pw) sv.e sv.f sv.g).toL.map wv) rfl rfl Hblkd.out (size8.trans rfl) rfl (map_wv_one _) ?_
          intro w10 hblk10 ho10 hz10
          have HB10 := Lib.hid hblk10
          have HO10 := Lib.hid (HOd.out.trans ho10)
          clear hblk10 ho10 k0 k1 k2 k3 k4 k5 k6 k7
          go_wp2_with fail
          refine ⟨⟨t + 1, by omega, by go_num, ?_, HO10.out⟩, by simp [intOf]; omega⟩
          rw [run8, ← Hsv.out, HkD.out, Hwt.out]
          have h := HB10.out
          rw [← Hpw.out, ← Hqw.out] at h
          exact h
        · obtain rfl : t = 64 := by omega
          obtain ⟨sv, hsv⟩ : ∃ sv, sv = run8 s0 (sched b 64) 64 := ⟨_, rfl⟩
          have Hsv := Lib.hid hsv
          rw [← hsv] at hblk
          have hs1 := HS1.out.only hO (by omega)
          have hs2 := HS2.out.only hO (by omega)
          have HS2 := Lib.hid hs2
          have HV := Lib.hid hblk
          have HBr := Lib.hid (HB7.out.trans (hO.below (by omega) fun k hk => by omega))
          clear hsv hs2 hblk hO
          obtain ⟨wq, hwq⟩ : ∃ wq, wq = wr := ⟨_, rfl⟩
          subst hwq
          go_wp2_with fail
          go_loopw [15] (fun i wx => ∃ t : Nat, t ≤ 8 ∧ i = .int .i64 t ∧ Blk wx w.heap.size 48 (((s0.add sv).toL.take t ++ s0.toL.drop t).map wv).toArray ∧ Only (fun k => k = w.heap.size) wq wx) (fun i _ => 8 - (intOf i).toNat)
          case atStart => exact ⟨0, by omega, rfl, hs1, Only.refl _ _⟩
          case round =>
            obtain ⟨t, ht, rfl, hblk, hO⟩ := hrel
            have hsx := hO.size
            by_cases hlt : t < 8
            · have g1 : (t : Int) < 8 := by omega
              have hgl := hblk.lt
              have hf := hblk.frozen t
              have hq1 := mix_cell s0 sv t hlt hblk
              have hq2 := (HV.out.only hO (by omega)).word (k := t) hlt
              have hset := fun m => mix_set (w := wr.drewN m) s0 sv t hlt hblk
              have Hset := Lib.hid hset
              have HO := Lib.hid hO
              generalize s0.toL[t] = x at *
              generalize sv.toL[t] = y at *
              clear hset hblk hO
              go_wp2_with fail
              refine region_quiet_tail 9 (fun w' => ∃ m, w' = wr.drewN m) (by kernel_rfl) (by kernel_rfl) ⟨1, rfl⟩ ?_
              simp only [List.take_succ_cons, List.take_zero, List.drop_succ_cons, List.drop_zero]
              repeat (go_big_quiet_step (fail))
              refine wpQuiet_nil ?_
              rintro _ ⟨m, rfl⟩
              have hOd : Only (fun k => k = w.heap.size) wq (wr.drewN m) := ⟨HO.out.os, HO.out.tape, HO.out.output, HO.out.size, HO.out.block⟩
              have HOd := Lib.hid hOd
              clear hOd
              go_wp2_with fail
              exact ⟨⟨t + 1, by omega, by go_num, Hset.out _, HOd.out.setCell (p := ⟨w.heap.size, t, none⟩) (.inl rfl) _⟩, by simp [intOf]; omega⟩
            · obtain rfl : t = 8 := by omega
              replace hblk : Blk wr w.heap.size 48 ((s0.add sv).toL.map wv).toArray := hblk
              have hs2 := HS2.out.only hO (by omega)
              have hBx := HBr.out.trans (hO.below (by omega) fun k hk => by omega)
              have HBx := Lib.hid hBx
              have HS2 := Lib.hid hs2
              clear hBx hO hs2
              go_wp2_with (refine wpList_at 187 rfl ?_; refine wp_stop ?_)
              refine ⟨?_⟩
              refine wpList_load_mid rfl 48 (.tmp 2) rfl w.heap.size 0 rfl ((s0.add sv).toL.map wv) _ (range_blk hblk) Try.underlying48 rfl (size8.trans rfl) ?_
              refine wpList_storeB rfl 48 (.tmp 4) (.tmp 187) rfl ((s0.add sv).toL.map wv) rfl rfl HS2.out (size8.trans rfl) rfl (map_wv_one _) ?_
              intro w12 hblk12 ho12 hz12
              go_wp2_with fail
              refine bodyPost_ret (v := aggW (s0.add sv).toL) (results_cell_row rfl _ _ (w.heap.size + 1) _ _ _ _ rfl hblk12 Try.underlying48 rfl (size8.trans rfl)) rfl ?_
              refine ⟨?_, HBx.out.trans (ho12.below HBx.out.size fun k hk => by omega)⟩
              rw [compress, ← Hsv.out]
end Go.Proofs.Ytmlkfkpffbbfaaa
