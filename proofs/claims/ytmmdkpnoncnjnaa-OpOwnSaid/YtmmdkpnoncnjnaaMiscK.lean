/- Several texts in one: Round AppW Lend2. -/
import Derived.Test.YtmmdkpnoncnjnaaMintK
import Derived.Test.YtmmdkpnoncnjnaaBaseK
import Derived.Laws.Append
import Derived.Laws.AppendOwn
import Derived.Test.YtmmdkpnoncnjnaaRdK
import Derived.Test.YtmmdkpnoncnjnaaRefK
namespace Go.Proofs.Ytmmdkpnoncnjnaa

section
/- The law's round. -/
open Go.RowKit

theorem round_any (i : Int) (n k : Nat) (hk : (k : Int) = i % (n : Int)) (hn : 0 < n) (hn2 : n ≤ 9223372036854775807) (w : World) :
    Calls Try.prog 25 #[.int .i64 i, .int .i64 (n : Int)] w fun e w' => e = .returned (.int .i64 (k : Int)) ∧ w' = w := by
  have h1 := Int.emod_nonneg i (b := (n : Int)) (by omega)
  have h2 := Int.emod_lt_of_pos i (b := (n : Int)) (by omega)
  have H3 := Lib.hid hk
  obtain ⟨t, ht⟩ : ∃ t, t = i.tmod (n : Int) := ⟨_, rfl⟩
  have htm := Int.tmod_add_mul_tdiv i (n : Int)
  have hlo : -(n : Int) < t ∧ t < n := by
    rw [ht]
    have := Int.lt_tmod_of_pos i (b := (n : Int)) (by omega)
    have := Int.tmod_lt_of_pos i (b := (n : Int)) (by omega)
    omega
  have hfin : (if t < 0 then t + (n : Int) else t) = i % (n : Int) := by
    have h : t = i - (n : Int) * i.tdiv n := by rw [ht]; omega
    by_cases h0 : t < 0
    · rw [if_pos h0]
      have : (t + (n : Int)) % (n : Int) = i % (n : Int) := by
        rw [h, Int.add_emod_right, Int.sub_mul_emod_self_left]
      rw [← this, Int.emod_eq_of_lt (by omega) (by omega)]
    · rw [if_neg h0]
      have : t % (n : Int) = i % (n : Int) := by rw [h, Int.sub_mul_emod_self_left]
      rw [← this, Int.emod_eq_of_lt (by omega) (by omega)]
  have Hfin := Lib.hid hfin
  have Ht := Lib.hid ht
  have hnn : ((n : Int) == 0) = false := by rw [beq_eq_false_iff_ne]; omega
  have hrem : i.tmod (n : Int) = t := ht.symm
  obtain ⟨hlo1, hlo2⟩ := hlo
  have hnpos : (1 : Int) ≤ n := by omega
  clear hfin ht htm h1 h2 hk
  by_cases h0 : t < 0
  · rw [if_pos h0] at Hfin
    go_enter Try.func25, Try.ntmps25
    go_wp2_with fail
    go_ret
    exact ⟨by rw [H3.out, ← Hfin.out]; rfl, rfl⟩
  · rw [if_neg h0] at Hfin
    go_enter Try.func25, Try.ntmps25
    go_wp2_with fail
    go_ret
    exact ⟨by rw [H3.out, ← Hfin.out]; rfl, rfl⟩
end

section
/- An append of bytes of any length that memory holds. -/
open Go.RowKit

theorem nextcap_wide {need old : Nat} (h : old < need) : Builtin.nextslicecap need old ≤ need + need / 4 + 512 := by
  unfold Builtin.nextslicecap
  split
  · omega
  · split
    · omega
    · rw [growBy_four]
      repeat' split
      all_goals omega
theorem rv_front {w : World} {g : Nat} {t : TypeId} {cs : Array Value} {vs zs : List Value} (h : Blk w g t cs) (e : cs.toList = vs ++ zs) : RV w (some ⟨g, 0, none⟩) vs := by
  have h1 := (RV.of_blk h).cut 0 vs.length
  rw [List.drop_zero, e, List.take_append_of_le_length (Nat.le_refl _), List.take_length] at h1
  exact h1
theorem run_app_wide (w : World) (ty : TypeId) {base n c m c' : Nat} {A A' : Option Addr} {xs ys : List UInt8} (hown : OwnB w base A n c xs) (hr : RV w A' (ys.map bv)) (hm : ys.length = m) (hn6 : n ≤ 1000000) (hb : n + m ≤ 200000000000000) (hnil : A' = none → m = 0 ∧ c' = 0) (hbase : base ≤ w.heap.size) :
    ∃ A2 c2 w', (Builtin.append_ #[32, 32] ty #[.slice A n c, .slice A' m c']).run Try.prog w = .ok (.slice A2 (n + m) c2) w' ∧ Sl w' ⟨A2, c2, xs ++ ys⟩ ∧ Below base w w' := by
  have hxn := hown.len
  by_cases hs : n + m ≤ 140737488355328
  · obtain ⟨A2, c2, w', h1, h2, h3, -⟩ := run_app (P := Try.prog) eByte ty hown (c' := c') hr (by rw [List.length_map, hm, Nat.mul_one]) (map_bv_one _) (by unfold maxLen; omega) (by omega) hbase hnil
    have h4 : OwnB w' base A2 (n + m) c2 (xs ++ ys) := by
      show Own w' _ _ _ _ _ _ ((xs ++ ys).map bv)
      rw [List.map_append]
      exact h2
    exact ⟨A2, c2, w', h1, Sl.of_own h4, (Below.refl _ _).grown h3 hbase fun k hk => (Own.row hown k hk).1⟩
  cases A' with
  | none => have := hnil rfl; omega
  | some a =>
    have hnews : ∀ j u, (ys.map bv)[j]? = some u → w.cell? (a.add j) = some u := by
      intro j u hu
      rcases hr with h | ⟨b, off, hA, _, hc⟩
      · rw [h] at hu; simp at hu
      · simp only [Option.some.injEq] at hA
        subst hA
        rw [addr_add]
        exact hc j u hu
    obtain ⟨i, hi, i1, i2, i3⟩ := info_parts byte_info
    have hl : (ys.map bv).length = m * i.size := by rw [List.length_map, hm, i2, Nat.mul_one]
    have hm0 : 0 < m := by omega
    rcases hown.2 with ⟨hv, h0⟩ | ⟨g, cap, cur, hv, hg, hh, hnc, hcm, hcs, htake⟩
    · injection hv with e1 e2 e3
      subst e1 e2 e3
      have hx : xs = [] := List.eq_nil_of_length_eq_zero hxn
      subst hx
      have hrun := run_append_nil (P := Try.prog) w 32 ty 5 i (.int .u8 0) Try.underlying32 hi i1 a m c' (ys.map bv) hl hnews hm0 (by omega) (by rw [i3]; omega)
      rw [Nat.zero_add]
      refine ⟨_, _, _, hrun, ⟨rv_front (Blk.new w.drew _ _) (by simp; rfl), fun h => by cases h⟩, ?_⟩
      exact (below_drewN (Below.refl _ _) 1).alloc hbase _
    · injection hv with e1 e2 e3
      subst e1 e3
      have hlen : (xs.map bv).length = n * i.size := by rw [List.length_map, hxn, i2, Nat.mul_one]
      by_cases hroom : n + m ≤ c
      · have hfit : n * i.size + (ys.map bv).length ≤ cur.size := by rw [hl, i2, hcs]; omega
        have hrun := run_append_room (P := Try.prog) w 32 ty 5 i Try.underlying32 hi g n c cur hh a m c' (ys.map bv) hl hnews (map_bv_one _) hroom hfit
        refine ⟨_, _, _, hrun, ⟨rv_front (setRow_heap w g cur _ _ _ hh) (zs := cur.toList.drop (n * i.size + (ys.map bv).length)) ?_, fun h => by cases h⟩, Only.below (only_setRow g _) hbase fun k hk e => by omega⟩
        rw [List.map_append, ← htake, i2]
      · have holds : ∀ j u, (xs.map bv)[j]? = some u → w.cell? ((⟨g, 0, none⟩ : Addr).add j) = some u := hown.cells (g := g) rfl
        have hb2 := nextcap_wide (need := n + m) (old := c) (by omega)
        have hrun := run_append_grow (P := Try.prog) w 32 ty 5 i (.int .u8 0) Try.underlying32 hi i1 ⟨g, 0, none⟩ n c (xs.map bv) hlen holds a m c' (ys.map bv) hl hnews (by omega) (by omega) (by rw [i3]; omega)
        refine ⟨_, _, _, hrun, ⟨rv_front (Blk.new w.drew _ _) (by simp [List.append_assoc]; rfl), fun h => by cases h⟩, ?_⟩
        exact (below_drewN (Below.refl _ _) 1).alloc hbase _
end

section
/- The law's Lend and Kept of bytes (chapter 2's). -/
open Go.RowKit

/-- What is lent, while the spare room is marked up to k. -/
def lendL (bs : List UInt8) (k : Nat) : List UInt8 := bs ++ (List.replicate (k - bs.length) 0xA9 ++ List.replicate (bs.length + 67 - k) 0)
theorem length_lend (bs : List UInt8) (k : Nat) (h1 : bs.length ≤ k) (h2 : k ≤ bs.length + 67) : (lendL bs k).length = bs.length + 67 := by
  simp only [lendL, List.length_append, List.length_replicate]; omega
theorem lend_set (bs : List UInt8) (k : Nat) (h1 : bs.length ≤ k) (h2 : k < bs.length + 67) : (lendL bs k).set k 0xA9 = lendL bs (k + 1) := by
  unfold lendL
  obtain ⟨m, hm⟩ : ∃ m, bs.length + 67 - k = m + 1 := ⟨bs.length + 66 - k, by omega⟩
  have hm2 : bs.length + 67 - (k + 1) = m := by omega
  rw [List.set_append_right _ _ h1, List.set_append_right _ _ (by rw [List.length_replicate]; omega), List.length_replicate, Nat.sub_self, hm, hm2, List.replicate_succ, List.set_cons_zero,
    show k + 1 - bs.length = (k - bs.length) + 1 from by omega, List.replicate_succ', List.append_assoc]
  rfl
/-- What is lent in the end. -/
def lent (bs : List UInt8) : List UInt8 := bs ++ List.replicate 67 0xA9
theorem lend_done (bs : List UInt8) : lendL bs (bs.length + 67) = lent bs := by
  unfold lendL lent
  rw [Nat.sub_self, List.replicate_zero, List.append_nil, show bs.length + 67 - bs.length = 67 from by omega]
set_option maxHeartbeats 1000000 in
theorem lend2_any (bs : List UInt8) (A : Option Addr) (c : Nat) (w : World) (hr : RV w A (bs.map bv)) (hl : bs.length ≤ 200000000000000) :
    Calls Try.prog 20 #[.slice A bs.length c] w fun e w' => e = .returned (.slice (some ⟨w.heap.size, 0, none⟩) bs.length (bs.length + 67)) ∧
      Blk w' w.heap.size 5 ((lent bs).map bv).toArray ∧ Below w.heap.size w w' := by
  have Hr := Lib.hid hr
  obtain ⟨n, hn⟩ : ∃ n, n = bs.length := ⟨_, rfl⟩
  rw [← hn] at hl ⊢
  have Hn := Lib.hid hn
  clear hr hn
  have hsl : ∀ w' g, (Instr.slice 32 (.slice (some ⟨g, 0, none⟩) (n + 67) (n + 67)) none (some (.int .i64 (n : Int))) none).run Try.prog w' = .ok (.slice (some ⟨g, 0, none⟩) n (n + 67)) w' := fun w' g => by
    rw [run_slice_h w' _ _ _ _ sliceB _ _ (by omega) (by omega), sizeB w', Result.andThen_ok]
    unfold sliced
    rw [Int.toNat_natCast]
    simp [Addr.add]
  go_enter Try.func20, Try.ntmps20
  go_wp2_with (refine wpList_at 8 rfl ?_; refine wp_stop ?_)
  refine ⟨?_⟩
  refine wpList_make1 rfl (.tmp 7) (.tmp 7) rfl Try.underlying32 byte_info rfl .i64 .i64 (n + 67) (n + 67) rfl rfl (by omega) (by omega) (by unfold maxLen; omega) ?_
  intro w1 hblk1 hb1 hz1
  have Hb1 := Lib.hid hb1
  have Hz1 := Lib.hid hz1
  have Hblk1 := Lib.hid hblk1
  clear hb1 hz1 hblk1
  go_wp2_with (refine wpList_at 11 rfl ?_; refine wp_stop ?_)
  refine ⟨?_⟩
  refine wpList_copy1 rfl (.tmp 9) (.tmp 10) rfl Try.underlying32 byte_size (g := w.heap.size) (off := 0) (dLen := n + 67) (dCap := n + 67) (A := A) (n := n) (sLen := n) (sCap := c) rfl rfl (cur := List.replicate (n + 67) (.int .u8 0)) Hblk1.out (us := bs.map bv) (Hr.out.below Hb1.out) ?_ ?_ ?_ ?_ (map_bv_one _) ?_
  · rw [List.length_map]; exact Hn.out.symm
  · exact (Nat.min_eq_left (by omega)).symm
  · rw [List.length_map]; have := Hn.out; omega
  · rw [List.length_replicate]; omega
  intro w2 hblk2 ho2
  have e2 : splice (List.replicate (n + 67) (Value.int .u8 0)) 0 (bs.map bv) = (lendL bs n).map bv := by
    unfold splice lendL
    rw [List.take_zero, List.nil_append, List.length_map, ← Hn.out, List.drop_replicate, Nat.zero_add, Nat.sub_self, List.replicate_zero, List.nil_append, List.map_append, List.map_replicate]
    rfl
  rw [e2] at hblk2
  have H2 := Lib.hid hblk2
  have HO2 := Lib.hid ho2
  clear e2 hblk2 ho2
  go_wp2_with fail
  go_loopw [4] (fun v wr => ∃ k : Nat, n ≤ k ∧ k ≤ n + 67 ∧ v = .int .i64 k ∧ Blk wr w.heap.size 5 ((lendL bs k).map bv).toArray ∧ Only (fun b => b = w.heap.size) w1 wr) (fun v _ => n + 67 - (intOf v).toNat)
  case atStart => exact ⟨n, Nat.le_refl _, by omega, rfl, H2.out, HO2.out⟩
  case round =>
    obtain ⟨k, hk1, hk2, rfl, hblk, hO⟩ := hrel
    by_cases hlt : k < n + 67
    · have g1 : (k : Int) < (n : Int) + 67 := by omega
      have hf := hblk.frozen k
      obtain ⟨v, hcv⟩ := hblk.some (i := k) (by rw [List.length_map, length_lend _ _ (by rw [← Hn.out]; exact hk1) (by rw [← Hn.out]; exact hk2), ← Hn.out]; exact hlt)
      have hgl := hblk.lt
      have Hblk := Lib.hid hblk
      have HO := Lib.hid hO
      clear hblk hO
      go_wp2_with fail
      refine ⟨⟨k + 1, by omega, by omega, by go_num, ?_, HO.out.setCell (p := ⟨w.heap.size, k, none⟩) (.inl rfl) _⟩, by simp [intOf]; omega⟩
      have h := Hblk.out.setL k (bv 0xA9)
      rw [← List.map_set, lend_set _ _ (by rw [← Hn.out]; exact hk1) (by rw [← Hn.out]; exact hlt)] at h
      exact h
    · obtain rfl : k = n + 67 := by omega
      have hB := Lib.hid (Hb1.out.trans (hO.below (by have := Hz1.out; omega) fun k hk => by omega))
      have e := lend_done bs
      rw [← Hn.out] at e
      rw [e] at hblk
      have Hblk := Lib.hid hblk
      clear hblk hO e
      go_wp2_with fail
      go_ret
      exact ⟨rfl, Hblk.out, hB.out⟩
/-- What is left of lent bytes while they are written over. -/
def wornL (l : List UInt8) (k : Nat) : List UInt8 := List.replicate k 0x5E ++ l.drop k
theorem length_worn (l : List UInt8) (k : Nat) (h : k ≤ l.length) : (wornL l k).length = l.length := by
  simp only [wornL, List.length_append, List.length_replicate, List.length_drop]; omega
theorem worn_set (l : List UInt8) (k : Nat) (h : k < l.length) : (wornL l k).set k 0x5E = wornL l (k + 1) := by
  unfold wornL
  rw [List.set_append_right _ _ (by rw [List.length_replicate]; omega), List.length_replicate, Nat.sub_self, List.drop_eq_getElem_cons h, List.set_cons_zero, List.replicate_succ', List.append_assoc]
  rfl
theorem length_lent (bs : List UInt8) : (lent bs).length = bs.length + 67 := by simp [lent]
set_option maxHeartbeats 1000000 in
theorem kept2_any (bs : List UInt8) (g : Nat) (A : Option Addr) (c : Nat) (w : World) (hblk : Blk w g 5 ((lent bs).map bv).toArray) (hr : RV w A (bs.map bv)) (hl : bs.length ≤ 200000000000000) :
    Calls Try.prog 23 #[.slice (some ⟨g, 0, none⟩) bs.length (bs.length + 67), .slice A bs.length c] w fun e w' => e = .returned (.bool true) ∧ Only (fun k => k = g) w w' := by
  have Hr := Lib.hid hr
  have Hg := Lib.hid (RV.of_blk hblk)
  have Hblk := Lib.hid hblk
  obtain ⟨n, hn⟩ : ∃ n, n = bs.length := ⟨_, rfl⟩
  rw [← hn] at hl ⊢
  have Hn := Lib.hid hn
  clear hr hn hblk
  have Hg1 : RV w (some ⟨g, 0, none⟩) (bs.map bv) := by
    have h := (Hg.out).cut 0 bs.length
    rw [List.drop_zero, ← List.map_take] at h
    unfold lent at h
    rw [List.take_append_of_le_length (Nat.le_refl _), List.take_length] at h
    exact h
  have HG1 := Lib.hid Hg1
  have hsl : ∀ w', (Instr.slice 32 (.slice (some ⟨g, 0, none⟩) n (n + 67)) none (some (.int .i64 ((n : Int) + 67))) none).run Try.prog w' = .ok (.slice (some ⟨g, 0, none⟩) (n + 67) (n + 67)) w' := fun w' => by
    rw [show ((n : Int) + 67) = ((n + 67 : Nat) : Int) from by omega, run_slice_h w' _ _ _ _ sliceB _ _ (by omega) (by omega), sizeB w', Result.andThen_ok]
    unfold sliced
    rw [Int.toNat_natCast]
    simp [Addr.add]
  clear Hg1 Hg
  go_enter Try.func23, Try.ntmps23
  go_wp2_with (first
    | (refine wpList_at 10 rfl ?_; refine wpList_bytesStr rfl (.tmp 9) (A := some ⟨g, 0, none⟩) (c := n + 67) (ys := bs) rfl (by rw [← Hn.out]; rfl) HG1.out Try.underlying32 Try.underlying5 Try.underlying9 ?_)
    | (refine wpList_at 12 rfl ?_; refine wpList_bytesStr rfl (.tmp 11) (A := A) (c := c) (ys := bs) rfl (by rw [← Hn.out]; rfl) Hr.out Try.underlying32 Try.underlying5 Try.underlying9 ?_))
  go_loop [5, 7] (fun v i => ∃ k : Nat, n ≤ k ∧ k ≤ n + 67 ∧ i = .int .i64 k ∧ v = .bool true) (fun _ i => n + 67 - (intOf i).toNat)
  case atStart => exact ⟨n, Nat.le_refl _, by omega, rfl, rfl⟩
  case round =>
    obtain ⟨k, hk1, hk2, rfl, rfl⟩ := hrel
    by_cases hlt : k < n + 67
    · have g1 : (k : Int) < (n : Int) + 67 := by omega
      have hc1 : w.cell? ⟨g, k, none⟩ = some (.int .u8 169) := by
        rw [Hblk.out.at_, List.getElem?_map]
        unfold lent
        rw [List.getElem?_append_right (by rw [← Hn.out]; exact hk1), List.getElem?_replicate, if_pos (by rw [← Hn.out]; omega)]
        rfl
      go_wp2_with fail
      exact ⟨⟨k + 1, by omega, by omega, by go_num, rfl⟩, by simp [intOf]; omega⟩
    · obtain rfl : k = n + 67 := by omega
      go_wp2_with fail
      go_loopw [8] (fun i wr => ∃ k : Nat, k ≤ n + 67 ∧ i = .int .i64 k ∧ Blk wr g 5 ((wornL (lent bs) k).map bv).toArray ∧ Only (fun k => k = g) w wr) (fun i _ => n + 67 - (intOf i).toNat)
      case atStart => exact ⟨0, Nat.zero_le _, rfl, Hblk.out, Only.refl _ _⟩
      case round =>
        obtain ⟨k, hk, rfl, hblk, hO⟩ := hrel
        by_cases hlt : k < n + 67
        · have g1 : (k : Int) < (n : Int) + 67 := by omega
          have hf := hblk.frozen k
          have hll : k < (lent bs).length := by rw [length_lent, ← Hn.out]; exact hlt
          obtain ⟨v, hcv⟩ := hblk.some (i := k) (by rw [List.length_map, length_worn _ _ (by omega)]; exact hll)
          have hgl := hblk.lt
          have Hblk2 := Lib.hid hblk
          have HO := Lib.hid hO
          have Hll := Lib.hid hll
          clear hblk hO hll
          go_wp2_with fail
          refine ⟨⟨k + 1, by omega, by go_num, ?_, HO.out.setCell (p := ⟨g, k, none⟩) (.inl rfl) _⟩, by simp [intOf]; omega⟩
          have h := Hblk2.out.setL k (bv 0x5E)
          rw [← List.map_set, worn_set _ _ Hll.out] at h
          exact h
        · obtain rfl : k = n + 67 := by omega
          have HO := Lib.hid hO
          clear hblk hO
          go_wp2_with fail
          go_ret
          exact ⟨rfl, HO.out⟩
end
end Go.Proofs.Ytmmdkpnoncnjnaa
