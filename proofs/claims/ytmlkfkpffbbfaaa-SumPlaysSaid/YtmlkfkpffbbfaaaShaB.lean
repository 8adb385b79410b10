/- The walk of the program's block. -/
import Derived.Test.YtmlkfkpffbbfaaaShaL
import Derived.Test.YtmlkfkpffbbfaaaQTail
namespace Go.Proofs.Ytmlkfkpffbbfaaa
open Go.RowKit
attribute [local go_sem] wxor32 wand32 wadd32 shr3 shr10 xor_max

/-- The words while the first sixteen are laid: t whole ones, then one of which k bytes are in. -/
def laidL (b : List UInt8) (t k : Nat) : List UInt32 := sched b t ++ [wordK b t k] ++ List.replicate (63 - t) 0
theorem sched_laid (b : List UInt8) (t : Nat) (h : t < 16) : laidL b t 4 = sched b (t + 1) ++ List.replicate (64 - (t + 1)) 0 := by
  unfold laidL
  rw [sched, if_pos h, show 64 - (t + 1) = 63 - t from by omega]
theorem laid_zero (b : List UInt8) (t : Nat) (h : t < 64) : laidL b t 0 = sched b t ++ List.replicate (64 - t) 0 := by
  unfold laidL
  rw [show 64 - t = (63 - t) + 1 from by omega, List.replicate_succ]
  simp [wordK]
theorem length_laid (b : List UInt8) (t k : Nat) (h : t < 64) : (laidL b t k).length = 64 := by
  simp only [laidL, List.length_append, length_sched, List.length_cons, List.length_nil, List.length_replicate]
  omega
theorem laid_at (b : List UInt8) (t k : Nat) : (laidL b t k)[t]? = some (wordK b t k) := by
  unfold laidL
  rw [List.append_assoc, List.getElem?_append_right (by rw [length_sched]; omega), length_sched]
  simp
theorem laid_set (b : List UInt8) (t k : Nat) : (laidL b t k).set t (wordK b t (k + 1)) = laidL b t (k + 1) := by
  unfold laidL
  rw [List.append_assoc, List.append_assoc, List.set_append_right _ _ (by rw [length_sched]; omega), length_sched]
  simp
theorem laid_blk {w : World} {g : Nat} {ty : TypeId} {b : List UInt8} {t k : Nat} (h : Blk w g ty ((laidL b t k).map wv).toArray) :
    w.cell? ⟨g, t, none⟩ = some (.int .u32 ((wordK b t k).toNat : Int)) ∧ Blk (w.setCell ⟨g, t, none⟩ (.int .u32 ((wordK b t (k + 1)).toNat : Int))) g ty ((laidL b t (k + 1)).map wv).toArray := by
  constructor
  · rw [h.at_, List.getElem?_map, laid_at]; rfl
  · have h2 := h.setL t (wv (wordK b t (k + 1)))
    rw [← List.map_set, laid_set] at h2
    exact h2
theorem or_byte (x : UInt32) (u : UInt8) : bits .or .u32 ((x.toNat : Int) * 256 % 4294967296) (u.toNat : Int) = ((UInt32.ofNat (x.toNat * 256) ||| UInt32.ofNat u.toNat).toNat : Int) := by
  rw [shl8, byte32 u, bits_or32]

theorem sched_cell {w : World} {g : Nat} {ty : TypeId} {b : List UInt8} {t : Nat} {zs : List UInt32} (h : Blk w g ty ((sched b t ++ zs).map wv).toArray) (j : Nat) (hj : j < t) :
    w.cell? ⟨g, j, none⟩ = some (.int .u32 (((sched b t).getD j 0).toNat : Int)) := by
  have hl := length_sched b t
  rw [h.at_, List.getElem?_map, List.getElem?_append_left (by omega), List.getElem?_eq_getElem (by omega), List.getD_eq_getElem?_getD, List.getElem?_eq_getElem (by omega)]
  rfl
theorem sched_set {w : World} {g : Nat} {ty : TypeId} {b : List UInt8} {t : Nat} (h : Blk w g ty ((sched b t ++ List.replicate (64 - t) 0).map wv).toArray) (h1 : 16 ≤ t) (h2 : t < 64) :
    Blk (w.setCell ⟨g, t, none⟩ (.int .u32 ((nextW (sched b t) t).toNat : Int))) g ty ((sched b (t + 1) ++ List.replicate (64 - (t + 1)) 0).map wv).toArray := by
  have h3 := h.setL t (wv (nextW (sched b t) t))
  obtain ⟨m, hm⟩ : ∃ m, 64 - t = m + 1 := ⟨63 - t, by omega⟩
  have hm2 : 64 - (t + 1) = m := by omega
  rw [hm, List.replicate_succ, ← List.map_set, List.set_append_right _ _ (by rw [length_sched]; omega), length_sched, Nat.sub_self, List.set_cons_zero] at h3
  rw [hm2, sched, if_neg (by omega), List.append_assoc]
  exact h3
/-- .. told apart by the slot that it goes to. -/
theorem wpList_allocD {P : Program} {w : World} {ops : Array Oper} {rest : List Oper} {o : Oper} {a : Act} {Q : Exit → Act → World → Prop} (d : Nat) (_hd : o.dst = some d) (hgd : o.guard = none) (t : TypeId) (ho : o.op = .alloc t) (cs : List Value)
    (hz : ∀ (ev : Operand → Value) (w : World), (execOp ev { o with op := .alloc t }).run P w = .ok (.value (.pointer (some ⟨w.heap.size, 0, none⟩))) (w.alloc (.cells cs.toArray t)))
    (h : ∀ w', Blk w' w.heap.size t cs.toArray → Below w.heap.size w w' → w'.heap.size = w.heap.size + 1 → wpList P ops Q rest (a.put o.dst (.pointer (some ⟨w.heap.size, 0, none⟩))) w') : wpList P ops Q (o :: rest) a w :=
  wpList_allocZ hgd t ho cs hz h
theorem st8_of (l : List UInt32) (h : l.length = 8) : ∃ s : St8, s.toL = l := by
  match l, h with
  | [a, b, c, d, e, f, g, h], _ => exact ⟨⟨a, b, c, d, e, f, g, h⟩, rfl⟩
theorem st8_cells {w : World} {g : Nat} {ty : TypeId} {s : St8} (h : Blk w g ty (s.toL.map wv).toArray) :
    w.cell? ⟨g, 0, none⟩ = some (.int .u32 (s.a.toNat : Int)) ∧ w.cell? ⟨g, 1, none⟩ = some (.int .u32 (s.b.toNat : Int)) ∧ w.cell? ⟨g, 2, none⟩ = some (.int .u32 (s.c.toNat : Int)) ∧ w.cell? ⟨g, 3, none⟩ = some (.int .u32 (s.d.toNat : Int)) ∧
    w.cell? ⟨g, 4, none⟩ = some (.int .u32 (s.e.toNat : Int)) ∧ w.cell? ⟨g, 5, none⟩ = some (.int .u32 (s.f.toNat : Int)) ∧ w.cell? ⟨g, 6, none⟩ = some (.int .u32 (s.g.toNat : Int)) ∧ w.cell? ⟨g, 7, none⟩ = some (.int .u32 (s.h.toNat : Int)) := by
  refine ⟨?_, ?_, ?_, ?_, ?_, ?_, ?_, ?_⟩ <;> (rw [h.at_]; rfl)
set_option maxRecDepth 100000 in
set_option maxHeartbeats 8000000 in
theorem block_any (g : Nat) (ws : List UInt32) (begun : Bool) (rest : List UInt8) (n : Nat) (w : World) (gb off c : Nat) (b : List UInt8) (s0 : St8) (hs0 : (if begun then ws else sum0) = s0.toL) (hb : b.length = 64) (hblk : Blk w g 51 (hashL ws begun rest n).toArray) (hws : ws.length = 8)
    (hr : RV w (some ⟨gb, off, none⟩) (b.map bv)) (hc : 64 ≤ c) :
    Calls Try.prog 38 #[.pointer (some ⟨g, 0, none⟩), .slice (some ⟨gb, off, none⟩) 64 c] w fun e w' => e = .returned (.tuple #[]) ∧ Blk w' g 51 (hashL (compress s0 b).toL true rest n).toArray ∧ Only (fun k => k = g) w w' := by
  have Hs0 := Lib.hid hs0
  clear hs0
  have Hblk := Lib.hid hblk
  have Hr := Lib.hid hr
  have hgl := hblk.lt
  have hc1 : (64 : Int) ≤ c := by omega
  clear hblk hr
  go_enter Try.func38, Try.ntmps38
  go_wp2_with fail
  refine (rounds_any w).mono ?_
  rintro e w1 ⟨rfl, hb1⟩
  have hB1 := hb1
  have hz1 := hb1.size
  clear hb1
  go_wp2_with (first
    | (refine wpList_allocD 4 rfl rfl 78 rfl (List.replicate 64 (.int .u32 0)) (fun ev w => by kernel_rfl) ?_; rintro w2a hblk2a hb2a hz2a)
    | (refine wpList_allocD 5 rfl rfl 78 rfl (List.replicate 64 (.int .u32 0)) (fun ev w => by kernel_rfl) ?_; rintro w2 hblk2 hb2 hz2)
    | (refine wpList_storeB rfl 78 (.tmp 4) (.tmp 21) rfl (sumK.map wv) rfl rfl hblk2a (sizeK.trans rfl) rfl (map_wv_one _) ?_; intro w3 hblk3 ho3 hz3))
  clear hblk2a
  have hK2 : Blk w2 w1.heap.size 78 (sumK.map wv).toArray := hblk3.below hb2 (by omega)
  have hB3 : Below w.heap.size w w3 := (hB1.trans (hb2a.mono hz1)).trans (ho3.below (by omega) fun k hk => by omega)
  have hB2 : Below w.heap.size w w2 := hB3.trans (hb2.mono hB3.size)
  obtain ⟨gb', off', hA, hgb, hcells⟩ := (Hr.out.below hB2).at_ (by rw [List.length_map, hb]; omega)
  cases hA
  have hgbw : gb < w.heap.size := by
    obtain ⟨gb', off', hA, h, -⟩ := Hr.out.at_ (by rw [List.length_map, hb]; omega)
    cases hA
    exact h
  have HC : Hid (∀ wr, Only (fun k => k = w3.heap.size) w2 wr → ∀ j, j < 64 → wr.cell? ⟨gb, off + j, none⟩ = some (.int .u8 ((b.getD j 0).toNat : Int))) := fun wr ho j hj => by
    rw [(ocell ho).1 _ _ hgb (by omega)]
    refine hcells j _ ?_
    rw [List.getElem?_map, List.getElem?_eq_getElem (by omega), List.getD_eq_getElem?_getD, List.getElem?_eq_getElem (by omega)]
    rfl
  have HK := Lib.hid hK2
  clear hblk3 ho3 hcells hgb hK2
  have hw3 : w3.heap.size = w1.heap.size + 1 := by omega
  rw [hw3] at hblk2 HC
  go_loopw [22] (fun i wr => ∃ t : Nat, t ≤ 16 ∧ i = .int .i64 t ∧ Blk wr (w1.heap.size + 1) 78 ((sched b t ++ List.replicate (64 - t) 0).map wv).toArray ∧ Only (fun k => k = w1.heap.size + 1) w2 wr) (fun i _ => 16 - (intOf i).toNat)
  case atStart => exact ⟨0, by omega, rfl, by simpa [sched, wv] using hblk2, Only.refl _ _⟩
  case round =>
    obtain ⟨t, ht, rfl, hblk, hO⟩ := hrel
    by_cases hlt : t < 16
    · have hlt1 : (t : Int) < 16 := by omega
      have hlt2 : (t : Int) < 64 := by omega
      have hb4 : (4 * (t : Int) + 4) ≤ c := by omega
      rw [← laid_zero b t (by omega)] at hblk
      go_wp2_with fail
      rw [show 4 * t + 4 - 4 * t = 4 from by omega]
      go_loopw [33] (fun i wr => ∃ k : Nat, k ≤ 4 ∧ i = .int .i64 k ∧ Blk wr (w1.heap.size + 1) 78 ((laidL b t k).map wv).toArray ∧ Only (fun k => k = w1.heap.size + 1) w2 wr) (fun i _ => 4 - (intOf i).toNat)
      case atStart => exact ⟨0, by omega, rfl, hblk, hO⟩
      case round =>
        obtain ⟨k, hk, rfl, hblk, hO⟩ := hrel
        by_cases hlk : k < 4
        · have hlk1 : (k : Int) < 4 := by omega
          have hc2 := HC.out _ hO (4 * t + k) (by omega)
          rw [← Nat.add_assoc] at hc2
          obtain ⟨hcw, hset⟩ := laid_blk hblk
          have hfz := hblk.frozen t
          have hor := or_byte (wordK b t k) (b.getD (4 * t + k) 0)
          have hbu := (b.getD (4 * t + k) 0).toNat_lt
          have Hset := Lib.hid hset
          have hgl := hblk.lt
          rw [show UInt32.ofNat ((wordK b t k).toNat * 256) ||| UInt32.ofNat (b.getD (4 * t + k) 0).toNat = wordK b t (k + 1) from rfl] at hor
          generalize (b.getD (4 * t + k) 0).toNat = bu at *
          clear hset
          go_wp2_with fail
          exact ⟨⟨k + 1, by omega, by go_num, Hset.out, hO.setCell (.inl rfl) _⟩, by simp [intOf]; omega⟩
        · obtain rfl : k = 4 := by omega
          go_wp2_with fail
          exact ⟨⟨t + 1, by omega, by go_num, by rw [← sched_laid b t hlt]; exact hblk, hO⟩, by simp [intOf]; omega⟩
    · obtain rfl : t = 16 := by omega
      go_wp2_with fail
      go_loopw [10] (fun i wr => ∃ t : Nat, 16 ≤ t ∧ t ≤ 64 ∧ i = .int .i64 t ∧ Blk wr (w1.heap.size + 1) 78 ((sched b t ++ List.replicate (64 - t) 0).map wv).toArray ∧ Only (fun k => k = w1.heap.size + 1) w2 wr) (fun i _ => 64 - (intOf i).toNat)
      case atStart => exact ⟨16, by omega, by omega, rfl, hblk, hO⟩
      case round =>
        obtain ⟨t, ht1, ht2, rfl, hblk, hO⟩ := hrel
        by_cases hlt : t < 64
        · have g1 : (16 : Int) ≤ t := by omega
          have g2 : (t : Int) < 64 := by omega
          have c1 := sched_cell hblk (t - 16) (by omega)
          have c2 := sched_cell hblk (t - 15) (by omega)
          have c3 := sched_cell hblk (t - 7) (by omega)
          have c4 := sched_cell hblk (t - 2) (by omega)
          have hfz := hblk.frozen t
          have hgl := hblk.lt
          go_wp2_with fail
          go_quiet (fail)
          go_wp2_with fail
          refine region_quiet_tail 33 (fun w' => ∃ m, w' = wr.drewN m) (by kernel_rfl) (by kernel_rfl) ⟨nq + 1, rfl⟩ ?_
          simp only [List.take_succ_cons, List.take_zero, List.drop_succ_cons, List.drop_zero]
          repeat (go_big_quiet_step (exact Calls.quiet_of_same (right_any _ _ _ (by decide) (by decide))))
          refine wpQuiet_nil ?_
          rintro _ ⟨m, rfl⟩
          have hset := sched_set hblk ht1 hlt
          have Hset := Lib.hid hset
          clear hset
          obtain ⟨v, hcv⟩ := hblk.some (i := t) (by rw [List.length_map, List.length_append, length_sched, List.length_replicate]; omega)
          go_wp2_with fail
          go_roundw
          case rel =>
            have hOd : Only (fun k => k = w1.heap.size + 1) w2 (wr.drewN m) := ⟨hO.os, hO.tape, hO.output, hO.size, hO.block⟩
            exact ⟨t + 1, by omega, by omega, by go_num, Hset.out, hOd.setCell (p := ⟨w1.heap.size + 1, t, none⟩) (.inl rfl) _⟩
          case measure => simp [intOf]; omega
        · obtain rfl : t = 64 := by omega
          rw [Nat.sub_self, List.replicate_zero, List.append_nil] at hblk
          have hh : Blk wr g 51 (hashL ws begun rest n).toArray := (Hblk.out.below hB2 hgl).only hO (by omega)
          have hK : Blk wr w1.heap.size 78 (sumK.map wv).toArray := HK.out.only hO (by omega)
          have hsz : w1.heap.size + 2 ≤ wr.heap.size := by have := hO.size; omega
          have hBr : Below w.heap.size w wr := hB2.trans (hO.below hB2.size fun k hk => by omega)
          go_wp2_with fail
          refine (state_any g ws begun rest n wr hh hws).mono ?_
          rintro e w5 ⟨rfl, hb5⟩
          rw [Hs0.out]
          have hh5 := hh.below hb5 hh.lt
          have hK5 := hK.below hb5 hK.lt
          have hW5 := hblk.below hb5 hblk.lt
          have hsz5 := hb5.size
          have hB5 : Below w.heap.size w w5 := hBr.trans (hb5.mono hBr.size)
          have Hh5 := Lib.hid hh5
          have HK5 := Lib.hid hK5
          have HW5 := Lib.hid hW5
          clear hh hK hblk hh5 hK5 hW5 hO
          go_wp2_with (first
            | (refine wpList_allocD 13 rfl rfl 48 rfl (List.replicate 8 (.int .u32 0)) (fun ev w => by kernel_rfl) ?_; rintro w6 hblk6 hb6 hz6)
            | (refine wpList_storeB rfl 48 (.tmp 13) (.tmp 94) rfl (s0.toL.map wv) rfl rfl hblk6 (size8.trans rfl) rfl (map_wv_one _) ?_; intro w7 hblk7 ho7 hz7))
          have hsz7 : w7.heap.size = w5.heap.size + 1 := by omega
          have hB7 : Below w.heap.size w w7 := (hB5.trans (hb6.mono hB5.size)).trans (ho7.below (by omega) fun k hk => by omega)
          have Hh7 := Lib.hid ((Hh5.out.below hb6 (by omega)).only ho7 (by omega))
          have HK7 := Lib.hid ((HK5.out.below hb6 (by omega)).only ho7 (by omega))
          have HW7 := Lib.hid ((HW5.out.below hb6 (by omega)).only ho7 (by omega))
          clear Hh5 HK5 HW5 hblk6 hb6 ho7
          go_loopw [95] (fun i wr => ∃ t : Nat, t ≤ 64 ∧ i = .int .i64 t ∧ Blk wr w5.heap.size 48 ((run8 s0 (sched b 64) t).toL.map wv).toArray ∧ Only (fun k => k = w5.heap.size) w7 wr) (fun i _ => 64 - (intOf i).toNat)
          case atStart => exact ⟨0, by omega, rfl, hblk7, Only.refl _ _⟩
          case round =>
            obtain ⟨t, ht, rfl, hblk, hO⟩ := hrel
            by_cases hlt : t < 64
            · have g1 : (t : Int) < 64 := by omega
              have hsr := hO.size
              have hgs := hblk.lt
              have q1 := (HK7.out.only hO (by omega)).word (k := t) hlt
              have q2 := (HW7.out.only hO (by omega)).word (k := t) (by rw [length_sched]; exact hlt)
              obtain ⟨sv, hsv⟩ : ∃ sv, sv = run8 s0 (sched b 64) t := ⟨_, rfl⟩
              have Hsv := Lib.hid hsv
              rw [← hsv] at hblk
              clear hsv
              obtain ⟨k0, k1, k2, k3, k4, k5, k6, k7⟩ := st8_cells hblk
              go_wp2_with fail
              go_quiet (fail)
              go_wp2_with fail
              refine region_quiet (fun w' => ∃ m, w' = wr.drewN m) (by kernel_rfl) (by kernel_rfl) ⟨nq + 1, rfl⟩ ?_
              repeat (go_big_quiet_step (exact Calls.quiet_of_same (right_any _ _ _ (by decide) (by decide))))
              refine wpQuiet_nil ?_
              rintro _ ⟨m1, rfl⟩
              go_wp2_with fail
              refine region_quiet (fun w' => ∃ m, w' = wr.drewN m) (by kernel_rfl) (by kernel_rfl) ⟨m1 + 1, rfl⟩ ?_
              repeat (go_big_quiet_step (exact Calls.quiet_of_same (right_any _ _ _ (by decide) (by decide))))
              refine wpQuiet_nil ?_
              rintro _ ⟨m2, rfl⟩
              go_wp2_with fail
              refine region_quiet_tail 2 (fun w' => ∃ m, w' = wr.drewN m) (by kernel_rfl) (by kernel_rfl) ⟨m2 + 1, rfl⟩ ?_
              simp only [List.take_succ_cons, List.take_zero, List.drop_succ_cons, List.drop_zero]
              repeat (go_big_quiet_step (fail))
              refine wpQuiet_nil ?_
              rintro _ ⟨m3, rfl⟩
              have hblkd : Blk (wr.drewN m3) w5.heap.size 48 (sv.toL.map wv).toArray := hblk
              have hOd : Only (fun k => k = w5.heap.size) w7 (wr.drewN m3) := ⟨hO.os, hO.tape, hO.output, hO.size, hO.block⟩
              have hru : RV (wr.drewN m3) (some ⟨w5.heap.size, 0, none⟩) ((sv.toL.map wv).take 7) := (RV.of_blk hblkd).cut 0 7
              clear hblk k0 k1 k2 k3 k4 k5 k6 k7
              refine wpList_copy1 rfl (.tmp 162) (.tmp 163) rfl Try.underlying82 size1W (g := w5.heap.size) (off := 1) (dLen := 7) (dCap := 7) (A := some ⟨w5.heap.size, 0, none⟩) (n := 7) (sLen := 7) (sCap := 8) rfl rfl (cur := sv.toL.map wv) hblkd (us := (sv.toL.map wv).take 7) hru rfl rfl (by show 7 ≤ 7; decide) (by show 1 + 7 ≤ 8; decide) (fun u hu => map_wv_one _ u (List.mem_of_mem_take hu)) ?_
              intro w8 hblk8 ho8
              replace hblk8 : Blk w8 w5.heap.size 48 ((St8.mk sv.a sv.a sv.b sv.c sv.d sv.e sv.f sv.g).toL.map wv).toArray := hblk8
              have hO8 := hOd.trans ho8
              clear hblkd hOd hru ho8 hO
              obtain ⟨k0, k1, k2, k3, k4, k5, k6, k7⟩ := st8_cells hblk8
              have f4 := hblk8.frozen 4
              have f0 := hblk8.frozen 0
              have hgs8 := hblk8.lt
              have HB8 := Lib.hid hblk8
              clear hblk8
              go_wp2_with fail
              refine ⟨⟨t + 1, by omega, by go_num, ?_, ?_⟩, by simp [intOf]; omega⟩
              · rw [p_step, q_step, run8, ← Hsv.out, getD_word sumK t hlt, getD_word (sched b 64) t (by rw [length_sched]; exact hlt)]
                exact step_blk HB8.out _ _
              · exact (hO8.setCell (p := ⟨w5.heap.size, 4, none⟩) (.inl rfl) _).setCell (p := ⟨w5.heap.size, 0, none⟩) (.inl rfl) _
            · obtain rfl : t = 64 := by omega
              have hgs := hblk.lt
              have hh8 := Hh7.out.only hO (by have := Hh7.out.lt; omega)
              have hB8 : Below w.heap.size w wr := hB7.trans (hO.below hB7.size fun k hk => by omega)
              obtain ⟨sv, hsv⟩ : ∃ sv, sv = run8 s0 (sched b 64) 64 := ⟨_, rfl⟩
              have Hsv := Lib.hid hsv
              rw [← hsv] at hblk
              clear hsv
              go_wp2_with fail
              refine (state_any g ws begun rest n wr hh8 hws).mono ?_
              rintro e w9 ⟨rfl, hb9⟩
              rw [Hs0.out]
              have HS9 := Lib.hid (hblk.below hb9 hgs)
              have hh9 := hh8.below hb9 hh8.lt
              have hB9 : Below w.heap.size w w9 := hB8.trans (hb9.mono hB8.size)
              have hs9 := hb9.size
              clear hh8 hblk hO
              go_wp2_with fail
              go_loopw [177] (fun i wr => ∃ t : Nat, t ≤ 8 ∧ i = .int .i64 t ∧ Blk wr g 51 (hashL ((s0.add sv).toL.take t ++ ws.drop t) begun rest n).toArray ∧ Only (fun k => k = g) w9 wr) (fun i _ => 8 - (intOf i).toNat)
              case atStart => exact ⟨0, by omega, rfl, hh9, Only.refl _ _⟩
              case round =>
                obtain ⟨t, ht, rfl, hblk, hO⟩ := hrel
                by_cases hlt : t < 8
                · have g1 : (t : Int) < 8 := by omega
                  have hgl := hblk.lt
                  have hf := hblk.frozen t
                  obtain ⟨v0, hv0⟩ := hblk.some (i := t) (by
                    rw [length_hashL, length_mixed _ _ _ (by show t ≤ 8; omega) hws]; show t < 8 + _; omega)
                  have hidx : ∀ w' : World, (Instr.index 48 (aggW s0.toL) (.int .i64 (t : Int))).run Try.prog w' = .ok (.int .u32 ((s0.toL[t]'hlt).toNat : Int)) w' := fun w' =>
                    run_index_row Try.underlying48 ⟨_, Try.underlying47⟩ size1W hlt (by
                      show (s0.toL.map wv).toArray[t]? = _
                      rw [List.getElem?_toArray, List.getElem?_map, List.getElem?_eq_getElem (by exact hlt)]; rfl)
                  have hsc := (HS9.out.only hO (by omega)).word (k := t) hlt
                  go_wp2_with fail
                  refine region_quiet_tail 10 (fun w' => ∃ m, w' = wr.drewN m) (by kernel_rfl) (by kernel_rfl) ⟨1, rfl⟩ ?_
                  simp only [List.take_succ_cons, List.take_zero, List.drop_succ_cons, List.drop_zero]
                  repeat (go_big_quiet_step (fail))
                  refine wpQuiet_nil ?_
                  rintro _ ⟨m, rfl⟩
                  have hset : Blk ((wr.drewN m).setCell ⟨g, t, none⟩ (wv (wadd s0.toL[t] sv.toL[t]))) g 51 (hashL ((s0.add sv).toL.take (t + 1) ++ ws.drop (t + 1)) begun rest n).toArray := by
                    have h1 : Blk (wr.drewN m) g 51 (hashL ((s0.add sv).toL.take t ++ ws.drop t) begun rest n).toArray := hblk
                    have h2 := h1.setL t (wv (wadd s0.toL[t] sv.toL[t]))
                    rw [mixed_add _ _ _ _ hlt hws] at h2
                    exact h2
                  have hOd : Only (fun k => k = g) w9 (wr.drewN m) := ⟨hO.os, hO.tape, hO.output, hO.size, hO.block⟩
                  have Hset := Lib.hid hset
                  clear hset
                  go_wp2_with fail
                  exact ⟨⟨t + 1, by omega, by go_num, Hset.out, hOd.setCell (p := ⟨g, t, none⟩) (.inl rfl) _⟩, by simp [intOf]; omega⟩
                · obtain rfl : t = 8 := by omega
                  have hf := hblk.frozen 8
                  have hgl := hblk.lt
                  obtain ⟨v0, hv0⟩ := hblk.some (i := 8) (by
                    rw [length_hashL, length_mixed _ _ _ (Nat.le_refl 8) hws]; show 8 < 8 + _; omega)
                  have Hblk := Lib.hid hblk
                  clear hblk
                  go_wp2_with fail
                  refine bodyPost_end (v := .tuple #[]) (results_none rfl _ _ _) rfl ⟨rfl, ?_, ?_⟩
                  · have h2 := Hblk.out.setL 8 (.bool true)
                    rw [hash_begun _ _ _ _ _ (by rw [length_mixed _ _ _ (Nat.le_refl 8) hws]; rfl), List.drop_eq_nil_of_le (by omega), List.append_nil, Hsv.out] at h2
                    exact h2
                  · exact ((Only.of_fresh hB9).more hO fun k _ h => h).setCell (p := ⟨g, 8, none⟩) (.inl rfl) _
end Go.Proofs.Ytmlkfkpffbbfaaa
