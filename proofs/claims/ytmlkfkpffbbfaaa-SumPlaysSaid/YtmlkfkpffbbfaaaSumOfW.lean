/- The walk of SumOf: it returns true. -/
import Derived.Test.YtmlkfkpffbbfaaaRfK
import Derived.Test.YtmlkfkpffbbfaaaQMid
import Derived.Test.YtmlkfkpffbbfaaaRfO
import Derived.Test.YtmlkfkpffbbfaaaShaGi
import Derived.Test.YtmlkfkpffbbfaaaShaKn
import Derived.Deep.RegionHeld3
namespace Go.Proofs.Ytmlkfkpffbbfaaa
open Go.RowKit

def mineV (ps : List (List UInt8)) (j g : Nat) : Value := if j < ps.length then .slice (some ⟨g, 0, none⟩) (ps.getD j []).length ((ps.getD j []).length + 67) else .slice (some ⟨g, 0, none⟩) 3 3
def mineC (ps : List (List UInt8)) (j : Nat) : List UInt8 := if j < ps.length then lent (ps.getD j []) else [1, 2, 3]
def mineL (ps : List (List UInt8)) (gf : Nat → Nat) (k m : Nat) : List Value := (List.range k).map (fun j => mineV ps j (gf j)) ++ List.replicate (m - k) (.slice none 0 0)
theorem length_mineL (ps : List (List UInt8)) (gf : Nat → Nat) (k m : Nat) (h : k ≤ m) : (mineL ps gf k m).length = m := by
  simp [mineL]; omega
theorem mineL_at (ps : List (List UInt8)) (gf : Nat → Nat) (k m j : Nat) (h : j < k) : (mineL ps gf k m)[j]? = some (mineV ps j (gf j)) := by
  unfold mineL
  rw [List.getElem?_append_left (by simpa using h), List.getElem?_map, List.getElem?_range h]
  rfl
theorem mineL_set (ps : List (List UInt8)) (gf : Nat → Nat) (k m g : Nat) (h : k < m) : (mineL ps gf k m).set k (mineV ps k g) = mineL ps (fun j => if j = k then g else gf j) (k + 1) m := by
  unfold mineL
  obtain ⟨q, hq⟩ : ∃ q, m - k = q + 1 := ⟨m - k - 1, by omega⟩
  rw [List.set_append_right _ _ (by simp), show ((List.range k).map (fun j => mineV ps j (gf j))).length = k from by simp, Nat.sub_self, hq, List.replicate_succ, List.set_cons_zero, List.range_succ, List.map_append, List.append_assoc,
    show m - (k + 1) = q from by omega]
  congr 1
  · refine List.map_congr_left fun j hj => ?_
    have : j < k := by simpa using hj
    dsimp only
    rw [if_neg (by omega)]
  · simp

/-- The first k of the lent parts are laid. -/
structure LaidP (w : World) (gm : Nat) (ps : List (List UInt8)) (k m : Nat) (gf : Nat → Nat) : Prop where
  row : Blk w gm 25 (mineL ps gf k m).toArray
  each : ∀ j, j < k → gm < gf j ∧ gf j < w.heap.size ∧ Blk w (gf j) 5 ((mineC ps j).map bv).toArray
  apart : ∀ i j, i < k → j < k → i ≠ j → gf i ≠ gf j
theorem LaidP.next {w w' : World} {gm : Nat} {ps : List (List UInt8)} {k m g : Nat} {gf : Nat → Nat} (h : LaidP w gm ps k m gf) (hk : k < m) (ho : Only (fun b => b = gm) w w') (hg : w.heap.size ≤ g) (hb : Blk w' g 5 ((mineC ps k).map bv).toArray)
    (hrow : Blk w' gm 25 ((mineL ps gf k m).set k (mineV ps k g)).toArray) : LaidP w' gm ps (k + 1) m (fun j => if j = k then g else gf j) := by
  rw [mineL_set ps gf k m g hk] at hrow
  have hgm := h.row.lt
  refine ⟨hrow, fun j hj => ?_, fun i j hi hj hij => ?_⟩
  · by_cases e : j = k
    · subst e
      rw [if_pos rfl]
      exact ⟨by omega, hb.lt, hb⟩
    · rw [if_neg e]
      obtain ⟨h1, h2, h3⟩ := h.each j (by omega)
      exact ⟨h1, Nat.lt_of_lt_of_le h2 ho.size, h3.only ho (by omega)⟩
  · by_cases e1 : i = k <;> by_cases e2 : j = k
    · omega
    · rw [if_pos e1, if_neg e2]
      have := (h.each j (by omega)).2.1
      omega
    · rw [if_neg e1, if_pos e2]
      have := (h.each i (by omega)).2.1
      omega
    · rw [if_neg e1, if_neg e2]
      exact h.apart i j (by omega) (by omega) hij
theorem LaidP.parts {w : World} {gm : Nat} {ps : List (List UInt8)} {gf : Nat → Nat} (h : LaidP w gm ps (ps.length + 3) (ps.length + 3) gf) (hl : ∀ p ∈ ps, p.length ≤ 140737488351232) : PartsV w (some ⟨gm, 0, none⟩) ps := by
  refine ⟨(mineL ps gf (ps.length + 3) (ps.length + 3)).take ps.length, ?_, ?_, fun i hi => ?_⟩
  · have h1 := (RV.of_blk h.row).cut 0 ps.length
    rw [List.drop_zero] at h1
    exact h1
  · rw [List.length_take, length_mineL _ _ _ _ (Nat.le_refl _)]; omega
  · refine ⟨mineV ps i (gf i), ?_, ?_⟩
    · rw [List.getElem?_take, if_pos hi, mineL_at _ _ _ _ _ (by omega)]
    · obtain ⟨h1, h2, h3⟩ := h.each i (by omega)
      have hb := hl ps[i] (List.getElem_mem hi)
      have e : ps.getD i [] = ps[i] := by rw [List.getD_eq_getElem?_getD, List.getElem?_eq_getElem hi]; rfl
      refine ⟨some ⟨gf i, 0, none⟩, ps[i].length + 67, ?_, ?_, by omega, by unfold maxLen; omega⟩
      · unfold mineV; rw [if_pos hi, e]
      · have h4 := (RV.of_blk h3).cut 0 ps[i].length
        unfold mineC lent at h4
        rw [if_pos hi, e, List.drop_zero, ← List.map_take, List.take_append_of_le_length (Nat.le_refl _), List.take_length] at h4
        exact h4
theorem getD_at (ps : List (List UInt8)) (i : Nat) (hi : i < ps.length) : ps.getD i [] = ps[i] := by rw [List.getD_eq_getElem?_getD, List.getElem?_eq_getElem hi]; rfl
theorem wpList_eqArr {P : Program} {ops : Array Oper} {rest : List Oper} {o : Oper} {a : Act} {w : World} {Q : Exit → Act → World → Prop} (hgd : o.guard = none) (T : TypeId) (x y : Operand) {Ty : TypeId} {e : TypeId} {k : IntKind} {n : Nat} (ho : o.op = .binOp .eql T x y Ty)
    (ht : P.underlying T = some (.array n e)) (he : P.underlying e = some (.int k)) (hs : (P.info? e).map (·.size) = some 1) (hg : P.eqGuardType P.depth T = false) {l m : List UInt8} (hx : a.eval x = aggB l) (hy : a.eval y = aggB m) (h1 : l.length = n) (h2 : m.length = n)
    (hk : wpList P ops Q rest (a.put o.dst (.bool (decide (l = m)))) w) : wpList P ops Q (o :: rest) a w := by
  have hgd2 : (eqGuard .eql T x y (aggB l) (aggB m)).run P w = .ok () w := run_eqGuard_agg w .eql T x y _ _ hg
  have hb : (binOp .eql T (aggB l) (aggB m)).run P w = .ok (.bool (decide (l = m))) w := run_eqlArr ht he hs h1 h2
  refine wpList_run (v := .bool (decide (l = m))) (w' := w) hgd ?_ hk
  unfold execOp
  simp only [ho, hx, hy, Sem.run_bind, hgd2, hb, Result.andThen_ok, Sem.run_pure]
/-- A conversion of a quiet region, by an equation. -/
theorem quiet_conv {P : Program} {o : Oper} {a : Act} {C : World → Prop} {K : Act → Prop} (src dst : TypeId) (x : Operand) (ho : o.op = .convert src dst x) {p v : Value} (hx : a.eval x = p) (h : ∀ w, C w → (convert src dst p).run P w = .ok v w) (hk : K (a.put o.dst v)) : o.quiet P a C K := by
  refine ⟨v, fun w hw => ?_, hk⟩
  unfold Oper.quietAt execOp
  simp only [ho, hx, Sem.run_bind, h w hw, Result.andThen_ok, Sem.run_pure]
  exact ⟨rfl, rfl⟩
theorem slice_info : (Try.prog.info? 25).map (fun i => (i.zero, i.size, i.bytes)) = some (some (.slice none 0 0), 1, 24) := by kernel_rfl
set_option maxHeartbeats 1000000 in
theorem sumOf_walk (ps : List (List UInt8)) (A : Option Addr) (c : Nat) (w : World) (hp : PartsN w A ps) (hpl : ps.length ≤ 5864062014634) :
    Calls Try.prog 3 #[.slice A ps.length c] w fun e w' => e = .returned (.bool true) ∧ Below w.heap.size w w' := by
  have Hp := Lib.hid hp
  clear hp
  go_enter Try.func3, Try.ntmps3
  go_wp2_with fail
  refine (known_any w).mono ?_
  rintro e w1 ⟨rfl, hb1⟩
  have Hb1 := Lib.hid hb1
  clear hb1
  go_wp2_with fail
  obtain ⟨T, hT⟩ : ∃ T, T = ps.flatten.length := ⟨_, rfl⟩
  have HT := Lib.hid hT
  refine (beyond_any ps A c w1 (Hp.out.below Hb1.out) (by unfold maxLen; omega) T hT).mono ?_
  rintro e w2 ⟨rfl, hw2⟩
  subst hw2
  clear hT
  by_cases hbig : 2147483647 < T
  · rw [decide_eq_true hbig]
    clear hbig
    go_wp2_with fail
    go_ret
    exact ⟨rfl, Hb1.out⟩
  rw [decide_eq_false hbig]
  have Hbig := Lib.hid hbig
  clear hbig
  go_wp2_with (refine wpList_at 14 rfl ?_; refine wp_stop ?_)
  refine ⟨?_⟩
  refine wpList_make1 rfl (.tmp 13) (.tmp 13) rfl Try.underlying22 slice_info rfl .i64 .i64 ((ps.length : Int) + 3) (ps.length + 3) rfl rfl (by omega) (by omega) (by unfold maxLen; omega) ?_
  intro w3 hblk3 hb3 hz3
  obtain ⟨gm, hgm⟩ : ∃ gm, gm = w2.heap.size := ⟨_, rfl⟩
  rw [← hgm] at hblk3 hb3 hz3 ⊢
  have hw1 := Hb1.out.size
  have Hgm := Lib.hid hgm
  have Hb3 := Lib.hid (Hb1.out.trans (hb3.mono (by omega)))
  have hl3 : LaidP w3 gm ps 0 (ps.length + 3) (fun _ => 0) := ⟨by simpa [mineL] using hblk3, fun j h => absurd h (by omega), fun i j h => absurd h (by omega)⟩
  have Hl3 := Lib.hid hl3
  have hgw : w.heap.size ≤ gm := by omega
  clear hblk3 hb3 hl3 hgm
  go_wp2_with fail
  go_loopw [4] (fun i wr => ∃ (k : Nat) (gf : Nat → Nat), k ≤ ps.length + 3 ∧ i = .int .i64 k ∧ LaidP wr gm ps k (ps.length + 3) gf ∧ Only (fun b => b = gm) w3 wr) (fun i _ => ps.length + 3 - (intOf i).toNat)
  case atStart => exact ⟨0, _, Nat.zero_le _, rfl, Hl3.out, Only.refl _ _⟩
  case round =>
    obtain ⟨k, gf, hk, rfl, hL, hO⟩ := hrel
    have hsr := hO.size
    by_cases hlt : k < ps.length + 3
    · have g1 : (k : Int) < (ps.length : Int) + 3 := by omega
      have hlr : k < (mineL ps gf k (ps.length + 3)).length := by rw [length_mineL _ _ _ _ hk]; exact hlt
      have hf := hL.row.frozen k
      obtain ⟨v, hcv⟩ := hL.row.some (i := k) hlr
      have hgl := hL.row.lt
      have hBr : Below w.heap.size w wr := Hb3.out.trans (hO.below (by omega) fun k hk => by omega)
      have HBr := Lib.hid hBr
      have HL := Lib.hid hL
      have HO := Lib.hid hO
      obtain ⟨wA, hwA⟩ : ∃ wA, wA = (wr.setCell ⟨gm, k, none⟩ (.slice (some ⟨wr.heap.size, 0, none⟩) 3 3)).alloc (.cells #[.int .u8 1, .int .u8 2, .int .u8 3] 5) := ⟨_, rfl⟩
      have hOA : Only (fun b => b = gm) wr wA := by rw [hwA]; exact ((Only.refl (fun b => b = gm) wr).setCell (p := ⟨gm, k, none⟩) (.inl rfl) _).alloc _
      have hRA : Blk wA gm 25 ((mineL ps gf k (ps.length + 3)).set k (.slice (some ⟨wr.heap.size, 0, none⟩) 3 3)).toArray := by rw [hwA]; exact (hL.row.setL k _).alloc _
      have hTA : Blk wA wr.heap.size 5 (List.map bv [1, 2, 3]).toArray := by
        have h := Blk.new (wr.setCell ⟨gm, k, none⟩ (.slice (some ⟨wr.heap.size, 0, none⟩) 3 3)) 5 (List.map bv [1, 2, 3]).toArray
        rw [World.size_setCell] at h
        rw [hwA]; exact h
      have hsA := hOA.size
      have hsA1 : wA.heap.size = wr.heap.size + 1 := by rw [hwA]; simp
      have HwA := Lib.hid hwA
      have HOA := Lib.hid hOA
      have HRA := Lib.hid hRA
      have HTA := Lib.hid hTA
      have HbA := Lib.hid (hBr.trans (hOA.below (by have := hBr.size; omega) fun k hk => by omega))
      clear hBr hL hO hlr hwA hOA hRA hTA
      by_cases hlp : k < ps.length
      · have g2 : (k : Int) < (ps.length : Int) := by omega
        obtain ⟨pb, poff, pA, pc, rfl, hpb, hpc, hpr, hp1, hp2, hp3, hp4⟩ := Hp.out.at_ hlp
        have hpc2 : wr.cell? ⟨pb, poff + k, none⟩ = some (.slice pA ps[k].length pc) := by rw [(bcell HBr.out).1 _ _ hpb]; exact hpc
        have hpgm : pb ≠ gm := by omega
        have hpb2 : pb < wr.heap.size := by have := HBr.out.size; omega
        have Hpr := Lib.hid hpr
        clear hpr hp3 hpc hpb
        go_wp2_with fail
        rw [← HwA.out]
        refine (lend_any ps[k] pA pc wA (Hpr.out.below HbA.out) (by omega)).mono ?_
        rintro e w5 ⟨rfl, hblk5, hb5⟩
        have hR5 := HRA.out.below hb5 (by omega)
        have hf5 := hR5.frozen k
        obtain ⟨v5, hcv5⟩ := hR5.some (i := k) (by rw [List.length_set, length_mineL _ _ _ _ hk]; exact hlt)
        have hgl5 := hR5.lt
        have HO5 := Lib.hid (HOA.out.trans (Only.of_fresh hb5))
        have HR5 := Lib.hid hR5
        have Hblk5 := Lib.hid hblk5
        clear hb5 hR5 hblk5 hf hcv
        go_wp2_with fail
        have hO6 := HO5.out.setCell (p := ⟨gm, k, none⟩) (.inl rfl) (.slice (some ⟨wr.heap.size + 1, 0, none⟩) ps[k].length (ps[k].length + 67))
        have hb6 : Blk (w5.setCell ⟨gm, k, none⟩ (.slice (some ⟨wr.heap.size + 1, 0, none⟩) ps[k].length (ps[k].length + 67))) (wr.heap.size + 1) 5 ((mineC ps k).map bv).toArray := by
          have h := Hblk5.out
          rw [hsA1] at h
          unfold mineC
          rw [if_pos hlp, getD_at ps k hlp]
          exact h.only ((Only.refl (fun b => b = gm) w5).setCell (p := ⟨gm, k, none⟩) (.inl rfl) _) (by omega)
        have hr6 := HR5.out.setL k (.slice (some ⟨wr.heap.size + 1, 0, none⟩) ps[k].length (ps[k].length + 67))
        rw [List.set_set] at hr6
        refine ⟨⟨k + 1, _, by omega, by go_num, HL.out.next hlt hO6 (by omega) hb6 ?_, HO.out.trans hO6⟩, by simp [intOf]; omega⟩
        unfold mineV
        rw [if_pos hlp, getD_at ps k hlp]
        exact hr6
      · have g2 : ¬ (k : Int) < (ps.length : Int) := by omega
        go_wp2_with fail
        rw [← HwA.out]
        refine ⟨⟨k + 1, _, by omega, by go_num, HL.out.next hlt HOA.out (Nat.le_refl _) ?_ ?_, HO.out.trans HOA.out⟩, by simp [intOf]; omega⟩
        · unfold mineC
          rw [if_neg hlp]
          exact HTA.out
        · unfold mineV
          rw [if_neg hlp]
          exact HRA.out
    · obtain rfl : k = ps.length + 3 := by omega
      have hBr : Below w.heap.size w wr := Hb3.out.trans (hO.below (by omega) fun k hk => by omega)
      have HBr := Lib.hid hBr
      have HL := Lib.hid hL
      have hgl := hL.row.lt
      have hps : ∀ p ∈ ps, p.length ≤ 140737488351232 := fun p hp => by
        obtain ⟨i, hi, rfl⟩ := List.mem_iff_getElem.1 hp
        obtain ⟨_, _, _, _, _, _, _, _, _, _, _, h⟩ := Hp.out.at_ hi
        exact h
      have HPV := Lib.hid (hL.parts hps)
      have hfl : ps.flatten.length ≤ 1152921504606846976 := by have := Hbig.out; have := HT.out; omega
      have Hfl := Lib.hid hfl
      have hsl : ∀ w', (Instr.slice 22 (.slice (some ⟨gm, 0, none⟩) (ps.length + 3) (ps.length + 3)) none (some (.int .i64 (ps.length : Int))) none).run Try.prog w' = .ok (.slice (some ⟨gm, 0, none⟩) ps.length (ps.length + 3)) w' := fun w' => by
        rw [run_slice_h w' _ _ _ _ (by kernel_rfl) _ _ (by omega) (by omega), show (sizeOf (Try.prog.elem 22)).run Try.prog w' = .ok 1 w' from by kernel_rfl, Result.andThen_ok]
        unfold sliced
        rw [Int.toNat_natCast]
        simp [Addr.add]
      clear hBr hL hO hps hfl
      go_wp2_with fail
      refine (of_any ps (some ⟨gm, 0, none⟩) (ps.length + 3) wr HPV.out Hfl.out (by unfold maxLen; omega)).mono ?_
      rintro e w5 ⟨rfl, hb5⟩
      clear hsl
      have HB5 := Lib.hid hb5
      clear hb5
      go_wp2_with (first
        | (refine wpList_allocD 5 rfl rfl 28 rfl (List.replicate 32 (.int .u8 0)) (fun ev w => by kernel_rfl) ?_; rintro w6 hblk6 hb6 hz6)
        | (refine wpList_atStore 28 (.tmp 5) (.tmp 41) rfl ?_; refine wp_stop ?_))
      refine ⟨?_⟩
      have hsd := map_bv_len (sha ps.flatten) (length_sha ps.flatten)
      refine wpList_storeB rfl 28 (.tmp 5) (.tmp 41) rfl ((sha ps.flatten).map bv) rfl rfl hblk6 hsd (by rw [List.length_map, length_sha]; rfl) (map_bv_one _) ?_
      intro w7 hblk7 ho7 hz7
      have hwr5 := HB5.out.size
      have hd7 : w7.heap.size = w5.heap.size + 1 := by omega
      have HO7 := Lib.hid (HB5.out.trans ((hb6.trans (ho7.below (by omega) fun k hk => by omega)).mono hwr5))
      have HL7 := Lib.hid HL.out
      have HD7 := Lib.hid hblk7
      have hsr2 : wr.heap.size ≤ w7.heap.size := by omega
      clear hblk6 hb6 hblk7 ho7 hsd
      go_wp2_with fail
      obtain ⟨wo, hwo⟩ : ∃ wo, wo = wr := ⟨_, rfl⟩
      subst hwo
      go_loopw [6] (fun i wx => ∃ k : Nat, k ≤ ps.length + 3 ∧ i = .int .i64 k ∧ Only (fun b => ∃ j, j < k ∧ b = gf j) w7 wx) (fun i _ => ps.length + 3 - (intOf i).toNat)
      case atStart => exact ⟨0, Nat.zero_le _, rfl, Only.refl _ _⟩
      case round =>
        obtain ⟨k, hk, rfl, hO⟩ := hrel
        have hsx := hO.size
        have hBx : Below w.heap.size w wr := (HBr.out.trans (HO7.out.mono HBr.out.size)).trans (hO.below (by have := HBr.out.size; omega) fun b hb ⟨j, hj, e⟩ => by
          have := (HL7.out.each j (by omega)).1
          omega)
        have HBx := Lib.hid hBx
        have hgmS : ¬ ∃ j, j < k ∧ gm = gf j := fun ⟨j, hj, e⟩ => by have := (HL7.out.each j (by omega)).1; omega
        by_cases hlt : k < ps.length + 3
        · have g1 : (k : Int) < (ps.length : Int) + 3 := by omega
          have hrow := ((HL7.out.row.below HO7.out hgl).only hO hgmS).at_ k
          rw [mineL_at _ _ _ _ _ hlt] at hrow
          obtain ⟨e1, e2, e3⟩ := HL7.out.each k hlt
          have hck := (e3.below HO7.out e2).only hO fun ⟨j, hj, e⟩ => HL7.out.apart k j hlt (by omega) (by omega) e
          have hgl2 := hck.lt
          have Hck := Lib.hid hck
          have HO := Lib.hid hO
          clear hck e3 hBx hO
          by_cases hlp : k < ps.length
          · have g2 : (k : Int) < (ps.length : Int) := by omega
            obtain ⟨pb, poff, pA, pc, rfl, hpb, hpc, hpr, hp1, hp2, hp3, hp4⟩ := Hp.out.at_ hlp
            have hpc2 : wr.cell? ⟨pb, poff + k, none⟩ = some (.slice pA ps[k].length pc) := by rw [(bcell HBx.out).1 _ _ hpb]; exact hpc
            have hpgm : pb ≠ gf k := by omega
            have hgmk : gm ≠ gf k := by omega
            have hpbw : pb < wr.heap.size := by have := HBx.out.size; omega
            have Hpr := Lib.hid hpr
            have hrow2 : wr.cell? ⟨gm, k, none⟩ = some (.slice (some ⟨gf k, 0, none⟩) ps[k].length (ps[k].length + 67)) := by
              rw [hrow]; unfold mineV; rw [if_pos hlp, getD_at ps k hlp]
            have hck2 : Blk wr (gf k) 5 ((lent ps[k]).map bv).toArray := by
              have h := Hck.out
              unfold mineC at h
              rw [if_pos hlp, getD_at ps k hlp] at h
              exact h
            have Hck2 := Lib.hid hck2
            have hkl : ps[k].length ≤ 140737488355328 := by omega
            have hgx : gm < wr.heap.size := by omega
            have g3 : decide (ps.length ≤ k) = false := by rw [decide_eq_false_iff_not]; omega
            clear hpr hp3 hpc hrow hck2
            go_wp2_with fail
            refine region_quiet_mid 13 (fun w' => ∃ m, w' = wr.drewN m) (by kernel_rfl) (by kernel_rfl) ⟨1, rfl⟩ ?_
            simp only [List.take_succ_cons, List.take_zero, List.drop_succ_cons, List.drop_zero]
            repeat (go_big_quiet_step (fail))
            refine wpQuiet_nil ?_
            rintro _ ⟨m, rfl⟩
            refine wpOp_call (f := 16) (args := #[.slice (some ⟨gf k, 0, none⟩) ps[k].length (ps[k].length + 67), .slice pA ps[k].length pc]) rfl (by rfl) rfl (by go_simp) (by go_simp) (d := 61) rfl ?_
            refine (kept_any ps[k] (gf k) pA pc (wr.drewN m) Hck2.out ((Hpr.out.below HBx.out).below (below_drewN (Below.refl _ _) m)) hkl).mono ?_
            rintro e w8 ⟨rfl, hO8⟩
            refine ⟨_, rfl, ?_⟩
            have HO8 := Lib.hid hO8
            clear hO8 hrow2 hpc2
            simp only [Act.put, List.setIfInBounds_toArray, List.set_cons_zero, List.set_cons_succ]
            repeat (go_big_quiet_step (fail))
            refine wpQuiet_nil ?_
            rintro _ ⟨m2, rfl⟩
            go_wp2_with fail
            refine ⟨⟨k + 1, by omega, by go_num, ?_⟩, by simp [intOf]; omega⟩
            have h1 : Only (fun b => ∃ j, j < k + 1 ∧ b = gf j) w7 wr := HO.out.mono fun _ _ ⟨j, hj, e⟩ => ⟨j, by omega, e⟩
            have h1d : Only (fun b => ∃ j, j < k + 1 ∧ b = gf j) w7 (wr.drewN m) := ⟨h1.os, h1.tape, h1.output, h1.size, h1.block⟩
            have h2 : Only (fun b => ∃ j, j < k + 1 ∧ b = gf j) (wr.drewN m) w8 := (HO8.out.mono (T := fun b => ∃ j, j < k + 1 ∧ b = gf j) fun b _ e => ⟨k, by omega, e⟩)
            have h3 := h1d.trans h2
            exact ⟨h3.os, h3.tape, h3.output, h3.size, h3.block⟩
          · have g2 : decide ((k : Int) < (ps.length : Int)) = false := by rw [decide_eq_false_iff_not]; omega
            have g3 : (ps.length : Int) ≤ (k : Int) := by omega
            have g4 : decide (k < ps.length) = false := by rw [decide_eq_false_iff_not]; omega
            have hrow2 : wr.cell? ⟨gm, k, none⟩ = some (.slice (some ⟨gf k, 0, none⟩) 3 3) := by
              rw [hrow]; unfold mineV; rw [if_neg hlp]
            have hck2 : Blk wr (gf k) 5 (List.map bv [1, 2, 3]).toArray := by
              have h := Hck.out
              unfold mineC at h
              rw [if_neg hlp] at h
              exact h
            have Hrv2 := Lib.hid (RV.of_blk hck2)
            clear hrow hck2
            go_wp2_with fail
            refine region_quiet (fun w' => ∃ m, w' = wr.drewN m) (by kernel_rfl) (by kernel_rfl) ⟨1, rfl⟩ ?_
            have hcv : ∀ w', (∃ m, w' = wr.drewN m) → (convert 25 9 (.slice (some ⟨gf k, 0, none⟩) 3 3)).run Try.prog w' = .ok (.string ⟨#[1, 2, 3]⟩) w' := by
              rintro _ ⟨m, rfl⟩
              exact run_bytesStr (ys := [1, 2, 3]) (Hrv2.out.below (below_drewN (Below.refl _ _) m)) Try.underlying25 Try.underlying5 Try.underlying9
            repeat (first
              | (go_big_quiet_want; refine quiet_conv 25 9 _ rfl rfl hcv ?_; simp only [Act.put, List.setIfInBounds_toArray, List.set_cons_zero, List.set_cons_succ]; go_big_quiet_on)
              | go_big_quiet_step (fail))
            refine wpQuiet_nil ?_
            rintro _ ⟨m, rfl⟩
            clear hcv
            go_wp2_with fail
            refine ⟨⟨k + 1, by omega, by go_num, ?_⟩, by simp [intOf]; omega⟩
            have h1 : Only (fun b => ∃ j, j < k + 1 ∧ b = gf j) w7 wr := HO.out.mono fun _ _ ⟨j, hj, e⟩ => ⟨j, by omega, e⟩
            exact ⟨h1.os, h1.tape, h1.output, h1.size, h1.block⟩
        · obtain rfl : k = ps.length + 3 := by omega
          have hd := (HD7.out.only hO fun ⟨j, hj, e⟩ => by
            have := (HL7.out.each j (by omega)).2.1
            omega)
          have hsd := map_bv_len (sha ps.flatten) (length_sha ps.flatten)
          have Hd := Lib.hid hd
          have HT2 := Lib.hid hsd
          have Hjl : Hid (ps.flatten.length ≤ 140737488351232) := by have := Hbig.out; have := HT.out; show ps.flatten.length ≤ _; omega
          clear hO hsd hBx
          go_wp2_with (refine wpList_at 78 rfl ?_; refine wp_stop ?_)
          refine ⟨?_⟩
          refine wpList_load_mid rfl 28 (.tmp 5) rfl w5.heap.size 0 rfl ((sha ps.flatten).map bv) _ (range_blk Hd.out) Try.underlying28 rfl HT2.out ?_
          go_wp2_with fail
          refine (given_any _ (length_sha _) wr).mono ?_
          rintro e wy ⟨rfl, hby⟩
          have HBy := Lib.hid (HBx.out.trans (hby.mono HBx.out.size))
          clear hby
          go_wp2_with fail
          refine (joined_any ps A c wy (Hp.out.below HBy.out) (by unfold maxLen; omega) Hjl.out).mono ?_
          rintro e wz ⟨A9, c9, rfl, hown9, hb9⟩
          have HBz := Lib.hid (HBy.out.trans (hb9.mono HBy.out.size))
          have Hr9 := Lib.hid (RV.of_own hown9)
          have Hn9 := Lib.hid hown9.nilA
          clear hb9 hown9
          have Hfl2 : Hid (ps.flatten.length ≤ 70368744177664) := by have := Hbig.out; have := HT.out; show ps.flatten.length ≤ _; omega
          clear Hfl Hjl HT HT2 HD7 Hd HPV HB5
          generalize ps.flatten = fl at *
          go_wp2_with fail
          refine (refOf_any fl A9 c9 wz Hr9.out Hfl2.out Hn9.out).mono ?_
          rintro e wu ⟨rfl, hbu⟩
          have HBu := Lib.hid (HBz.out.trans (hbu.mono HBz.out.size))
          clear hbu
          go_wp2_with (refine wpList_at 83 rfl ?_; refine wp_stop ?_)
          refine ⟨?_⟩
          refine wpList_eqArr rfl 31 (.tmp 79) (.tmp 82) rfl Try.underlying31 Try.underlying5 size1B guardR rfl rfl (length_sha _) (length_sha _) ?_
          rw [decide_eq_true rfl]
          go_wp2_with fail
          go_ret
          exact ⟨rfl, HBu.out⟩
end Go.Proofs.Ytmlkfkpffbbfaaa
