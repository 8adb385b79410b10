/- The walk of SumTurned: it returns true. -/
import Derived.Test.YtmlkfkpffbbfaaaShaLd
import Derived.Test.YtmlkfkpffbbfaaaShaGi
import Derived.Deep.RegionHeld3
import Derived.Deep.DrawnRows
import Derived.Test.YtmlkfkpffbbfaaaShaPr
namespace Go.Proofs.Ytmlkfkpffbbfaaa
open Go.RowKit
attribute [local go_sem ↓] Go.wp_at_zero Go.wp_at_succ

theorem bits_xor8 (a b : UInt8) : bits .xor .u8 a.toNat b.toNat = ((a ^^^ b).toNat : Int) := by
  have h : bits .xor .u8 a.toNat b.toNat = IntKind.u8.wrap (((BitVec.ofInt 8 (a.toNat : Int)) ^^^ (BitVec.ofInt 8 (b.toNat : Int))).toNat : Int) := rfl
  have e (x : UInt8) : BitVec.ofInt 8 (x.toNat : Int) = x.toBitVec := by rw [BitVec.ofInt_natCast]; simp
  rw [h, e, e, IntKind.wrap_u8]
  have e2 : (a.toBitVec ^^^ b.toBitVec).toNat = (a ^^^ b).toNat := rfl
  rw [e2]
  have := (a ^^^ b).toNat_lt
  omega
/-- A load of a row in a drawn region, carried out where it comes up. -/
theorem step_loadG {P : Program} {ops : Array Oper} {o : Oper} {a : Act} {w : World} {K : Act → World → Prop} {Q : Exit → Act → World → Prop} {F : Prop} (hw : Region.wanted o (yielded ops a.tmps) = true) (ty : TypeId) (x : Operand) (ho : o.op = .load ty x)
    (b : Nat) (hx : a.eval x = .pointer (some ⟨b, 0, none⟩)) (cs : List Value) (d : TypeDesc) {t : TypeId} (hb : Blk w b t cs.toArray)
    (hu : P.underlying ty = some d) (hd : d.isRow = true) (hi : (P.info? ty).map (·.size) = some cs.length) (h : K (a.put o.dst (.agg cs.toArray)) w) :
    if Region.wanted o (yielded ops a.tmps) = true then Oper.wp P o a w K Q else F := by
  rw [if_pos hw]
  exact wp_load_mid ty x ho b 0 hx cs d (fun j v hv => by rw [Nat.zero_add, hb.cell]; simpa using hv) hu hd hi h
set_option linter.unusedSimpArgs false in
set_option maxHeartbeats 4000000 in
theorem sumTurned_walk (bs : List UInt8) (A : Option Addr) (c : Nat) (i j : Int) (w : World) (hr : RV w A (bs.map bv)) (hl : bs.length ≤ 140737488351232) (hc : bs.length ≤ c) (hcm : c ≤ maxLen) :
    Calls Try.prog 4 #[.slice A bs.length c, .int .i64 i, .int .i64 j] w fun e w' => e = .returned (.bool true) ∧ Below w.heap.size w w' := by
  have Hr := Lib.hid hr
  have Hcm := Lib.hid hcm
  clear hr hcm
  by_cases h0 : bs.length = 0
  · obtain rfl : bs = [] := List.length_eq_zero_iff.1 h0
    clear h0
    go_enter Try.func4, Try.ntmps4
    go_wp2_with fail
    refine (known_any w).mono ?_
    rintro e w2 ⟨rfl, hb2⟩
    go_wp2_with fail
    refine (known_any w2).mono ?_
    rintro e w3 ⟨rfl, hb3⟩
    go_wp2_with fail
    go_ret
    exact ⟨rfl, hb2.trans (hb3.mono hb2.size)⟩
  · obtain ⟨n, hn⟩ : ∃ n, n = bs.length := ⟨_, rfl⟩
    have hlend := fun w2 (h : RV w2 A (bs.map bv)) => lend_any bs A c w2 h (by omega)
    rw [← hn] at hl hc h0 hlend ⊢
    have Hn := Lib.hid hn
    have hne : ((n : Int) == 0) = false := by rw [beq_eq_false_iff_ne]; omega
    obtain ⟨k, hk⟩ : ∃ k : Nat, (k : Int) = i % (n : Int) := ⟨(i % (n : Int)).toNat, by have := Int.emod_nonneg i (b := (n : Int)) (by omega); omega⟩
    obtain ⟨r, hrr⟩ : ∃ r : Nat, (r : Int) = j % ((8 : Nat) : Int) := ⟨(j % 8).toNat, by omega⟩
    have hkn : k < n := by have := Int.emod_lt_of_pos i (b := (n : Int)) (by omega); omega
    have hr8 : r < 8 := by omega
    have hround1 := fun w => round_any i n k hk (by omega) (by omega) w
    have hround2 : ∀ w, Calls Try.prog 20 #[.int .i64 j, .int .i64 8] w fun e w' => e = .returned (.int .i64 (r : Int)) ∧ w' = w := fun w => round_any j 8 r hrr (by omega) (by omega) w
    have hkl : k < bs.length := by omega
    obtain ⟨x, hx⟩ : ∃ x, bs[k]? = some x := ⟨_, List.getElem?_eq_getElem hkl⟩
    have Hx := Lib.hid hx
    obtain ⟨v8, hv8⟩ : ∃ v : UInt8, (2 : Int) ^ r % 256 = (v.toNat : Int) := ⟨UInt8.ofNat (2 ^ r), by rw [UInt8.toNat_ofNat']; simp⟩
    obtain ⟨y, hy⟩ : ∃ y, y = x ^^^ v8 := ⟨_, rfl⟩
    have hxx : bits .xor .u8 (x.toNat : Int) (v8.toNat : Int) = (y.toNat : Int) := by rw [hy]; exact bits_xor8 x v8
    have hyy : bits .xor .u8 (y.toNat : Int) (v8.toNat : Int) = (x.toNat : Int) := by
      rw [bits_xor8 y v8, hy, UInt8.xor_assoc, UInt8.xor_self, UInt8.xor_zero]
    have Hyy := Lib.hid hyy
    clear hn hk hrr hkl hx hy hyy
    go_enter Try.func4, Try.ntmps4
    go_wp2_with fail
    refine (known_any w).mono ?_
    rintro e w2 ⟨rfl, hb2⟩
    have hr2 := Hr.out.below hb2
    have HB2 := Lib.hid hb2
    clear hb2
    go_wp2_with fail
    refine (hlend w2 hr2).mono ?_
    rintro e w3 ⟨rfl, hm3, hb3⟩
    have HB3 : Hid (Below w.heap.size w w3) := Lib.hid (HB2.out.trans (hb3.mono HB2.out.size))
    have hgw : w.heap.size ≤ w2.heap.size := HB2.out.size
    have Hr3 := Lib.hid (hr2.below hb3)
    have HM3 := Lib.hid hm3
    clear hlend hr2 hb3 hm3
    go_wp2_with fail
    refine (hround1 w3).mono ?_
    rintro e w4 ⟨rfl, h4⟩
    rw [h4]
    clear h4 hround1
    go_wp2_with fail
    have hmine : RV w3 (some ⟨w2.heap.size, 0, none⟩) (bs.map bv) := by
      have h := (RV.of_blk HM3.out).cut 0 bs.length
      rw [List.drop_zero, ← List.map_take, show (lent bs).take bs.length = bs from by unfold lent; simp] at h
      exact h
    refine (of_laid bs (some ⟨w2.heap.size, 0, none⟩) n (n + 67) 1 w3 _ 25 (by rfl) Hn.out.symm hmine (by have := Hn.out; omega) (by unfold maxLen; omega) (by have := Hn.out; omega)).mono ?_
    rintro e w5 ⟨rfl, hb5⟩
    have hb35 : Below w3.heap.size w3 w5 := ((Below.refl _ _).alloc (Nat.le_refl _) _).trans (hb5.mono (by simp))
    have HB5 : Hid (Below w.heap.size w w5) := Lib.hid (HB3.out.trans (hb35.mono HB3.out.size))
    have hm5 := HM3.out.below hb35 HM3.out.lt
    have Hr5 := Lib.hid (Hr3.out.below hb35)
    have HM5 := Lib.hid hm5
    have hg5 := hm5.lt
    clear hmine hb5 hb35 hm5
    obtain ⟨d1, hd1⟩ : ∃ d, d = sha bs := ⟨_, rfl⟩
    have Hd1 := Lib.hid hd1
    have hl1 : d1.length = 32 := by rw [hd1]; exact length_sha bs
    rw [← hd1]
    have Hs1 := Lib.hid (map_bv_len d1 hl1)
    have Hl1 := Lib.hid hl1
    clear hd1 hl1
    go_wp2_with (first
      | (refine wpList_at 9 rfl ?_; refine wpList_allocZ rfl 28 rfl (List.replicate 32 (.int .u8 0)) (fun ev w => by kernel_rfl) ?_; intro w6 n6 hb6 hz6; have hb6' := hb6; have hz6' := hz6; clear hb6 hz6)
      | (refine wpList_atStore 28 (.tmp 9) (.tmp 27) rfl ?_; refine wp_stop ?_))
    refine ⟨?_⟩
    refine wpList_storeB rfl 28 (.tmp 9) (.tmp 27) rfl (d1.map bv) rfl rfl n6 Hs1.out (by rw [List.length_map, Hl1.out]; rfl) (map_bv_one _) ?_
    intro w7 kd7 ho7 hz7
    have hm7 := (HM5.out.below hb6' HM5.out.lt).only ho7 (by omega)
    have HB6 : Hid (Below w.heap.size w w6) := Lib.hid (HB5.out.trans (hb6'.mono HB5.out.size))
    have hb57 : Below w5.heap.size w5 w7 := hb6'.trans (ho7.below (by omega) fun k hk => by omega)
    have HB7 : Hid (Below w.heap.size w w7) := Lib.hid (HB5.out.trans (hb57.mono HB5.out.size))
    have Hr7 := Lib.hid (Hr5.out.below hb57)
    have hs57 : w5.heap.size < w7.heap.size := by omega
    clear n6 hb6' hz6' ho7 hz7 hb57
    have hcx : w7.cell? ⟨w2.heap.size, k, none⟩ = some (.int .u8 (x.toNat : Int)) := by
      rw [hm7.at_, List.getElem?_map]
      unfold lent
      rw [List.getElem?_append_left (by have := Hn.out; omega), Hx.out]
      rfl
    have hf7 := hm7.frozen k
    have hkn2 : (k : Int) < (n : Int) := by omega
    have hr81 : (r : Int) < 8 := by omega
    have HM7 := Lib.hid hm7
    have HK7 := Lib.hid kd7
    clear hm7 kd7
    go_wp2_with fail
    simp only [Act.put]
    refine region_quiet_tail 11 (fun w' => ∃ m, w' = w7.drewN m) (by kernel_rfl) (by kernel_rfl) ⟨1, rfl⟩ ?_
    simp only [List.take_succ_cons, List.take_zero, List.drop_succ_cons, List.drop_zero]
    repeat (go_big_quiet_step (with_reducible exact Calls.quiet_of_same (hround2 _)))
    refine wpQuiet_nil ?_
    rintro _ ⟨m1, rfl⟩
    have hm8 : Blk ((w7.drewN m1).setCell ⟨w2.heap.size, k, none⟩ (.int .u8 (y.toNat : Int))) w2.heap.size 5 (((lent bs).set k y).map bv).toArray := by
      have h1 : Blk (w7.drewN m1) w2.heap.size 5 ((lent bs).map bv).toArray := HM7.out
      have h2 := h1.setL k (bv y)
      rw [← List.map_set] at h2
      exact h2
    have HM8 := Lib.hid hm8
    clear hm8 hcx
    obtain ⟨v0, hv0⟩ := HM7.out.some (i := k) (by rw [List.length_map]; unfold lent; rw [List.length_append]; have := Hn.out; omega)
    obtain ⟨bs2, hbs2⟩ : ∃ b, b = bs.set k y := ⟨_, rfl⟩
    have hn2 : bs2.length = n := by rw [hbs2, List.length_set]; exact Hn.out.symm
    have hset : (lent bs).set k y = lent bs2 := by
      unfold lent
      rw [List.set_append_left _ _ (by have := Hn.out; omega), hbs2]
    have hback : (lent bs2).set k x = lent bs := by
      rw [← hset, List.set_set]
      have h1 : (lent bs)[k]? = some x := by
        unfold lent
        rw [List.getElem?_append_left (by have := Hn.out; omega), Hx.out]
      obtain ⟨hlt, he⟩ := List.getElem?_eq_some_iff.1 h1
      rw [← he, List.set_getElem_self]
    have Hback := Lib.hid hback
    have Hn2 := Lib.hid hn2
    rw [hset] at HM8
    have Hbs2 := Lib.hid hbs2
    clear hset hback hn2 hbs2
    obtain ⟨d2, hd2⟩ : ∃ d, d = sha bs2 := ⟨_, rfl⟩
    have Hd2 := Lib.hid hd2
    have hl2 : d2.length = 32 := by rw [hd2]; exact length_sha bs2
    have Hs2 := Lib.hid (map_bv_len d2 hl2)
    have Hl2 := Lib.hid hl2
    clear hd2 hl2
    go_wp2_with fail
    generalize hw8 : World.setCell (w7.drewN m1) ⟨w2.heap.size, k, none⟩ (.int .u8 (y.toNat : Int)) = w8
    rw [hw8] at HM8
    have ho8 : Only (fun b => b = w2.heap.size) w7 w8 := by
      rw [← hw8]
      have h0 : Only (fun b => b = w2.heap.size) w7 (w7.drewN m1) := ⟨rfl, rfl, rfl, Nat.le_refl _, fun _ _ _ => rfl⟩
      exact h0.setCell (p := ⟨w2.heap.size, k, none⟩) (.inl rfl) _
    have hz8 : w8.heap.size = w7.heap.size := by rw [← hw8]; simp
    clear hw8 v0 hv0
    have hgA : ∀ b o, A = some ⟨b, o, none⟩ → bs ≠ [] → b < w.heap.size := fun b o h h0 => by
      obtain ⟨b', o', h', hb', -⟩ := Hr.out.at_ (by rw [List.length_map]; exact List.length_pos_iff.2 h0)
      rw [h] at h'
      cases h'
      exact hb'
    have hr8 := Hr7.out.only ho8 (fun h0 b o h hb => by
      have := hgA b o h (fun e => h0 (by rw [e]; rfl))
      omega)
    have HB8 : Hid (Below w.heap.size w w8) := Lib.hid (HB7.out.trans (ho8.below HB7.out.size fun b hb => by omega))
    have hk8 := HK7.out.only ho8 (by have := HB5.out.size; omega)
    have hmine8 : RV w8 (some ⟨w2.heap.size, 0, none⟩) (bs2.map bv) := by
      have h := (RV.of_blk HM8.out).cut 0 bs2.length
      rw [List.drop_zero, ← List.map_take, show (lent bs2).take bs2.length = bs2 from by unfold lent; simp] at h
      exact h
    refine (of_laid2 bs2 d2 Hd2.out (some ⟨w2.heap.size, 0, none⟩) n (n + 67) 1 w7.heap.size w8 _ 25 hz8 (by rfl) Hn2.out hmine8 (by have := Hn2.out; omega) (by unfold maxLen; omega) (by have := Hn2.out; omega)).mono ?_
    rintro e w9 ⟨rfl, hb9⟩
    have hb89 : Below w8.heap.size w8 w9 := ((Below.refl _ _).alloc (Nat.le_refl _) _).trans (hb9.mono (by simp))
    have HB9 : Hid (Below w.heap.size w w9) := Lib.hid (HB8.out.trans (hb89.mono HB8.out.size))
    have hm9 := HM8.out.below hb89 HM8.out.lt
    have hk9 := hk8.below hb89 hk8.lt
    have hr9 := hr8.below hb89
    have hs9 : w5.heap.size < w9.heap.size := by have := hb89.size; omega
    clear hb9 hb89 hmine8 hk8 hr8
    go_wp2_with (first
      | (refine wpList_at 10 rfl ?_; refine wpList_allocZ rfl 28 rfl (List.replicate 32 (.int .u8 0)) (fun ev w => by kernel_rfl) ?_; intro w10 n10 hb10 hz10; have hb10' := hb10; have hz10' := hz10; clear hb10 hz10)
      | (refine wpList_atStore 28 (.tmp 10) (.tmp 41) rfl ?_; refine wp_stop ?_))
    refine ⟨?_⟩
    refine wpList_storeB rfl 28 (.tmp 10) (.tmp 41) rfl (d2.map bv) rfl rfl n10 Hs2.out (by rw [List.length_map, Hl2.out]; rfl) (map_bv_one _) ?_
    intro w11 kd11 ho11 hz11
    have hm11 := (hm9.below hb10' hm9.lt).only ho11 (by have := hm9.lt; omega)
    have hk11 := (hk9.below hb10' hk9.lt).only ho11 (by omega)
    have HB10 : Hid (Below w.heap.size w w10) := Lib.hid (HB9.out.trans (hb10'.mono HB9.out.size))
    have hb911 : Below w9.heap.size w9 w11 := hb10'.trans (ho11.below (by omega) fun k hk => by omega)
    have HB11 : Hid (Below w.heap.size w w11) := Lib.hid (HB9.out.trans (hb911.mono HB9.out.size))
    have hr11 := hr9.below hb911
    have hs11 : w9.heap.size < w11.heap.size := by omega
    have HR11 := Lib.hid hr11
    have HM11 := Lib.hid hm11
    have HK11 := Lib.hid hk11
    have HD11 := Lib.hid kd11
    have hgm := hm11.lt
    clear hm9 hk9 n10 hb10' hz10' ho11 hz11 hb911 hr9 hr11 hm11 hk11 kd11 HB10
    have hu := Try.underlying28
    have hi := Hs2.out
    have hll : (d2.map bv).length = 32 := by rw [List.length_map]; exact Hl2.out
    have hone := map_bv_one d2
    have hmine11 : RV w11 (some ⟨w2.heap.size, 0, none⟩) (bs2.map bv) := by
      have h := (RV.of_blk HM11.out).cut 0 bs2.length
      rw [List.drop_zero, ← List.map_take, show (lent bs2).take bs2.length = bs2 from by unfold lent; simp] at h
      exact h
    have HMi := Lib.hid hmine11
    have hrange : w11.rangeAt w9.heap.size 0 (d2.map bv) := range_blk HD11.out
    clear hmine11
    go_wp2_with fail
    try simp only [Act.put]
    have heq2 : ∀ w, (Op.equalIn 10000 28 (.agg (d2.map bv).toArray) (.agg (d2.map bv).toArray)).run Try.prog w = .ok true w := fun w => by
      have h := run_eqArr (P := Try.prog) (w := w) Try.underlying28 Try.underlying5 size1B Hl2.out Hl2.out
      rw [decide_eq_true (rfl : d2 = d2)] at h
      exact h
    have hn2b : bs2.length ≤ 1152921504606846976 := by have := Hn2.out; omega
    have hn2c := Lib.hid hn2b
    clear hn2b
    go_region_held3 (fun w' => w'.rangeAt w9.heap.size 0 (d2.map bv))
      (first
        | go_keep_ranges
        | (go_split_ands; (try dsimp only); first | exact range_blk hB13.out | exact range_blk (hB12.out.alloc _) | exact range_blk hB12.out))
      (first
        | (go_at_call 15; refine (of_laid2 bs2 d2 Hd2.out A2 n c2 1 w12.heap.size w12 _ 25 rfl (by rfl) Hn2.out hrv12.out hle12.out hcm12.out hn2c.out).mono ?_; rintro e w13 ⟨rfl, hb13⟩; have hbb13 : Hid (Below w11.heap.size w11 w13) := Lib.hid (hbb12.out.trans ((((Below.refl _ _).alloc (Nat.le_refl _) _).trans (hb13.mono (by simp))).mono hbb12.out.size)); have hB13 : Hid (Blk w13 w9.heap.size 28 (d2.map bv).toArray) := Lib.hid (HD11.out.below hbb13.out hs11))
        | (refine step_at 45 rfl ?_; refine step_app (by rfl) (.tmp 43) (.tmp 44) eByte (by rfl) (base := w11.heap.size) (n := 0) (c := 0) (A := some ⟨w11.heap.size, 0, none⟩) (vs := []) (by rfl) ((Own.lit w11 5 1 0 #[] (Nat.le_refl _) (by decide) rfl).drew) (A' := some ⟨w2.heap.size, 0, none⟩) (m := n) (c' := n + 67) (us := bs2.map bv) (by rfl) ((HMi.out.alloc _).drew) (by rw [List.length_map, Hn2.out, Nat.mul_one]) (map_bv_one _) (by unfold maxLen; omega) (by omega) (by simp) (by simp) ?_; intro A2 c2 w12 hown12 hgrow12 hat12; have hbb12 : Hid (Below w11.heap.size w11 w12) := Lib.hid ((((Below.refl _ _).alloc (Nat.le_refl _) _).drew).grown hgrow12 (by simp) (fun k hk => by simp at hk; omega)); have hB12 : Hid (Blk w12 w9.heap.size 28 (d2.map bv).toArray) := Lib.hid (HD11.out.below hbb12.out hs11); have hrv12 : Hid (RV w12 A2 (bs2.map bv)) := Lib.hid (RV.of_own hown12); have hle12 : Hid (bs2.length ≤ c2) := Lib.hid (by have := (own_caps hown12).1; have := Hn2.out; omega); have hcm12 := Lib.hid (own_caps hown12).2; clear hown12 hgrow12 hat12))
    have HB13 : Hid (Below w.heap.size w w13) := Lib.hid (HB11.out.trans (hbb13.out.mono HB11.out.size))
    have HM13 := Lib.hid (HM11.out.below hbb13.out HM11.out.lt)
    have HK13 := Lib.hid (HK11.out.below hbb13.out HK11.out.lt)
    have HR13 := Lib.hid (HR11.out.below hbb13.out)
    have hs13 : w5.heap.size < w13.heap.size := HK13.out.lt
    clear heq2 hu hi hll hone hrange hrv12 hle12 hcm12 hB12 hB13 hb13 hbb12 hbb13
    go_wp2_with fail
    have hmine13 : RV w13 (some ⟨w2.heap.size, 0, none⟩) (bs2.map bv) := by
      have h := (RV.of_blk HM13.out).cut 0 bs2.length
      rw [List.drop_zero, ← List.map_take, show (lent bs2).take bs2.length = bs2 from by unfold lent; simp] at h
      exact h
    refine (of_laid2 bs2 d2 Hd2.out (some ⟨w2.heap.size, 0, none⟩) n (n + 67) 1 w13.heap.size w13 _ 25 rfl (by rfl) Hn2.out hmine13 (by have := Hn2.out; omega) (by unfold maxLen; omega) hn2c.out).mono ?_
    rintro e w14 ⟨rfl, hb14⟩
    have hb1314 : Below w13.heap.size w13 w14 := ((Below.refl _ _).alloc (Nat.le_refl _) _).trans (hb14.mono (by simp))
    have HB14 : Hid (Below w.heap.size w w14) := Lib.hid (HB13.out.trans (hb1314.mono HB13.out.size))
    have hm14 := HM13.out.below hb1314 HM13.out.lt
    have HK14 := Lib.hid (HK13.out.below hb1314 HK13.out.lt)
    have HR14 := Lib.hid (HR13.out.below hb1314)
    have HM14 := Lib.hid hm14
    have hs14 : w5.heap.size < w14.heap.size := HK14.out.lt
    clear hb14 hb1314 hmine13
    have hcy : w14.cell? ⟨w2.heap.size, k, none⟩ = some (.int .u8 (y.toNat : Int)) := by
      rw [hm14.at_, List.getElem?_map]
      have h1 : (lent bs2)[k]? = some y := by
        have := Hn2.out
        have hb := Hback.out
        rw [Hbs2.out]
        unfold lent
        rw [List.getElem?_append_left (by rw [List.length_set]; have := Hn.out; omega), List.getElem?_set_self (by have := Hn.out; omega)]
      rw [h1]
      rfl
    have hf14 := hm14.frozen k
    have hgm14 := hm14.lt
    have hyy := Hyy.out
    clear hm14 hxx
    go_wp2_with fail
    try simp only [Act.put]
    refine region_quiet_tail 11 (fun w' => ∃ m, w' = w14.drewN m) (by kernel_rfl) (by kernel_rfl) ⟨1, rfl⟩ ?_
    simp only [List.take_succ_cons, List.take_zero, List.drop_succ_cons, List.drop_zero]
    repeat (go_big_quiet_step (with_reducible exact Calls.quiet_of_same (hround2 _)))
    refine wpQuiet_nil ?_
    rintro _ ⟨m2, rfl⟩
    have hm15 : Blk ((w14.drewN m2).setCell ⟨w2.heap.size, k, none⟩ (.int .u8 (x.toNat : Int))) w2.heap.size 5 ((lent bs).map bv).toArray := by
      have h1 : Blk (w14.drewN m2) w2.heap.size 5 ((lent bs2).map bv).toArray := HM14.out
      have h2 := h1.setL k (bv x)
      rw [← List.map_set, Hback.out] at h2
      exact h2
    have HM15 := Lib.hid hm15
    clear hm15 hyy
    go_wp2_with fail
    generalize hw15 : World.setCell (w14.drewN m2) ⟨w2.heap.size, k, none⟩ (.int .u8 (x.toNat : Int)) = w15
    rw [hw15] at HM15
    have ho15 : Only (fun b => b = w2.heap.size) w14 w15 := by
      rw [← hw15]
      have h0 : Only (fun b => b = w2.heap.size) w14 (w14.drewN m2) := ⟨rfl, rfl, rfl, Nat.le_refl _, fun _ _ _ => rfl⟩
      exact h0.setCell (p := ⟨w2.heap.size, k, none⟩) (.inl rfl) _
    have hz15 : w15.heap.size = w14.heap.size := by rw [← hw15]; simp
    clear hw15 hcy hf14
    have hr15 := HR14.out.only ho15 (fun h0 b o h hb => by
      have := hgA b o h (fun e => h0 (by rw [e]; rfl))
      omega)
    have HB15 : Hid (Below w.heap.size w w15) := Lib.hid (HB14.out.trans (ho15.below HB14.out.size fun b hb => by omega))
    have hk15 := HK14.out.only ho15 (by have := HB5.out.size; have := HM8.out.lt; omega)
    have hmine15 : Hid (RV w15 (some ⟨w2.heap.size, 0, none⟩) (bs.map bv)) := Lib.hid (by
      have h := (RV.of_blk HM15.out).cut 0 bs.length
      rw [List.drop_zero, ← List.map_take, show (lent bs).take bs.length = bs from by unfold lent; simp] at h
      exact h)
    have HR15 := Lib.hid hr15
    have HK15 := Lib.hid hk15
    have hs15 : w5.heap.size < w15.heap.size := hk15.lt
    have hu := Try.underlying28
    have hi := Hs1.out
    have hll : (d1.map bv).length = 32 := by rw [List.length_map]; exact Hl1.out
    have hone := map_bv_one d1
    have hrange : w15.rangeAt w5.heap.size 0 (d1.map bv) := range_blk HK15.out
    have heq1 : ∀ w, (Op.equalIn 10000 28 (.agg (d1.map bv).toArray) (.agg (d1.map bv).toArray)).run Try.prog w = .ok true w := fun w => by
      have h := run_eqArr (P := Try.prog) (w := w) Try.underlying28 Try.underlying5 size1B Hl1.out Hl1.out
      rw [decide_eq_true (rfl : d1 = d1)] at h
      exact h
    have Hz15 := Lib.hid hz15
    have hnb := Lib.hid (show bs.length ≤ 1152921504606846976 by have := Hn.out; omega)
    have hnn := Lib.hid (show bs.length ≤ n + 67 by have := Hn.out; omega)
    have hnc := Lib.hid (show bs.length ≤ c by have := Hn.out; omega)
    have tok1 : True := trivial
    clear hr15 hk15 hz15
    refine wp_region_noPanic ?_
    refine wp_region_held_drew (S := fun w' => w'.rangeAt w5.heap.size 0 (d1.map bv)) (by kernel_rfl) ?_ (fun hHeld => ?_)
    · exact hrange
    refine wpAnyH_take (i := 0) (v := ?_) rfl (by kernel_rfl) (by kernel_rfl) (by kernel_rfl) (fun _ _ _ h => h) (Or.inl ⟨by rfl, ?_⟩) (by assumption) ?_
    rotate_left
    · intro w hSw
      go_simp
      with_reducible rfl
    simp only [Act.put, List.setIfInBounds_toArray, List.set_cons_zero, List.set_cons_succ]
    refine' wpAnyH_take (i := 3) (v := _) rfl (by kernel_rfl) (by kernel_rfl) (by kernel_rfl) (fun _ _ _ h => h)
          (yieldsIf_load_mid (by rfl) _ _ rfl _ _ rfl _ _ ?hSa ?hua ?hda ?hia) (by assumption) ?resta
    case hSa => intro w hSw; exact hSw
    case hua => exact hu
    case hda => rfl
    case hia => exact hi
    simp only [Act.put, List.setIfInBounds_toArray, List.set_cons_zero, List.set_cons_succ]
    refine wpAnyH_ready (rs := [1]) (by kernel_rfl) (by simp) ?_
    refine AllReadyH.cons rfl (fun K hK => ?_) AllReadyH.nil
    go_simp
    refine hK.out _ _ ?_ (fun hHeld => ?_)
    · exact range_blk (HK15.out.alloc _)
    clear hK K
    try simp only [Act.put, List.setIfInBounds_toArray, List.set_cons_zero, List.set_cons_succ]
    refine wpAnyH_ready (rs := [2]) (by kernel_rfl) (by simp) ?_
    refine AllReadyH.cons rfl (fun K hK => ?_) AllReadyH.nil
    go_simp
    go_at_call 15
    refine (of_laid2 bs d1 Hd1.out (some ⟨w2.heap.size, 0, none⟩) n (n + 67) 1 w15.heap.size w15 _ 25 rfl (by rfl) Hn.out.symm hmine15.out hnn.out (by unfold maxLen; omega) hnb.out).mono ?_
    rintro e w17 ⟨rfl, hb17⟩
    have hbb17 : Hid (Below w15.heap.size w15 w17) := Lib.hid ((((Below.refl _ _).alloc (Nat.le_refl _) _).drew).trans (hb17.mono (by simp)))
    have hB17 : Hid (Blk w17 w5.heap.size 28 (d1.map bv).toArray) := Lib.hid (HK15.out.below hbb17.out hs15)
    have hr17 := Lib.hid (HR15.out.below hbb17.out)
    refine hK.out _ _ ?_ (fun hHeld => ?_)
    · exact range_blk hB17.out
    clear hK K
    try simp only [Act.put, List.setIfInBounds_toArray, List.set_cons_zero, List.set_cons_succ]
    refine wpAnyH_take (i := 4) (v := ?_) rfl (by kernel_rfl) (by kernel_rfl) (by kernel_rfl) (fun _ _ _ h => h) (Or.inl ⟨by rfl, ?_⟩) (by assumption) ?_
    rotate_left
    · intro w hSw
      go_simp
      with_reducible rfl
    simp only [Act.put, List.setIfInBounds_toArray, List.set_cons_zero, List.set_cons_succ]
    refine wpAnyH_take (i := 5) (v := ?_) rfl (by kernel_rfl) (by kernel_rfl) (by kernel_rfl) (fun _ _ _ h => h) (Or.inl ⟨by rfl, ?_⟩) (by assumption) ?_
    rotate_left
    · intro w hSw
      go_simp
      with_reducible rfl
    simp only [Act.put, List.setIfInBounds_toArray, List.set_cons_zero, List.set_cons_succ]
    refine' wpAnyH_take (i := 6) (v := _) rfl (by kernel_rfl) (by kernel_rfl) (by kernel_rfl) (fun _ _ _ h => h)
          (yieldsIf_load_mid (by rfl) _ _ rfl _ _ rfl _ _ ?hSb ?hub ?hdb ?hib) (by assumption) ?restb
    case hSb => intro w hSw; exact hSw
    case hub => exact hu
    case hdb => rfl
    case hib => exact hi
    simp only [Act.put, List.setIfInBounds_toArray, List.set_cons_zero, List.set_cons_succ]
    refine wpAnyH_take (i := 7) (v := ?_) rfl (by kernel_rfl) (by kernel_rfl) (by kernel_rfl) (fun _ _ _ h => h) (Or.inl ⟨by rfl, ?_⟩) (by assumption) ?_
    rotate_left
    · intro w hSw
      go_simp
      with_reducible rfl
    simp only [Act.put, List.setIfInBounds_toArray, List.set_cons_zero, List.set_cons_succ]
    refine wpAnyH_ready (rs := [8]) (by kernel_rfl) (by simp) ?_
    refine AllReadyH.cons rfl (fun K hK => ?_) AllReadyH.nil
    go_simp
    refine hK.out _ _ ?_ (fun hHeld => ?_)
    · exact range_blk (hB17.out.alloc _)
    clear hK K
    try simp only [Act.put, List.setIfInBounds_toArray, List.set_cons_zero, List.set_cons_succ]
    refine wpAnyH_ready (rs := [9]) (by kernel_rfl) (by simp) ?_
    refine AllReadyH.cons rfl (fun K hK => ?_) AllReadyH.nil
    go_simp
    go_at_call 15
    refine (of_laid2 bs d1 Hd1.out A n c 1 w17.heap.size w17 _ 25 rfl (by rfl) Hn.out.symm hr17.out hnc.out Hcm.out hnb.out).mono ?_
    rintro e w18 ⟨rfl, hb18⟩
    have hbb18 : Hid (Below w15.heap.size w15 w18) := Lib.hid (hbb17.out.trans ((((Below.refl _ _).alloc (Nat.le_refl _) _).trans (hb18.mono (by simp))).mono hbb17.out.size))
    have hB18 : Hid (Blk w18 w5.heap.size 28 (d1.map bv).toArray) := Lib.hid (HK15.out.below hbb18.out hs15)
    refine hK.out _ _ ?_ (fun hHeld => ?_)
    · exact range_blk hB18.out
    clear hK K
    try simp only [Act.put, List.setIfInBounds_toArray, List.set_cons_zero, List.set_cons_succ]
    refine wpAnyH_take (i := 10) (v := ?_) rfl (by kernel_rfl) (by kernel_rfl) (by kernel_rfl) (fun _ _ _ h => h) (Or.inl ⟨by rfl, ?_⟩) (by assumption) ?_
    rotate_left
    · intro w hSw
      go_simp
      with_reducible rfl
    simp only [Act.put, List.setIfInBounds_toArray, List.set_cons_zero, List.set_cons_succ]
    refine wpAnyH_take (i := 11) (v := ?_) rfl (by kernel_rfl) (by kernel_rfl) (by kernel_rfl) (fun _ _ _ h => h) (Or.inl ⟨by rfl, ?_⟩) (by assumption) ?_
    rotate_left
    · intro w hSw
      go_simp
      with_reducible rfl
    simp only [Act.put, List.setIfInBounds_toArray, List.set_cons_zero, List.set_cons_succ]
    refine wpAnyH_take (i := 12) (v := ?_) rfl (by kernel_rfl) (by kernel_rfl) (by kernel_rfl) (fun _ _ _ h => h) (Or.inl ⟨by rfl, ?_⟩) (by assumption) ?_
    rotate_left
    · intro w hSw
      go_simp
      with_reducible rfl
    simp only [Act.put, List.setIfInBounds_toArray, List.set_cons_zero, List.set_cons_succ]
    refine wpAnyH_done (by kernel_rfl) ?_ _
    refine NoPanic.normal ?_
    try simp only [List.getElem_toArray, List.getElem_cons_succ, List.getElem_cons_zero, Act.put, List.setIfInBounds_toArray, List.set_cons_zero, List.set_cons_succ]
    have HB18 : Hid (Below w.heap.size w w18) := Lib.hid (HB15.out.trans (hbb18.out.mono HB15.out.size))
    clear heq1 hu hi hll hone hrange
    go_wp2_with fail
    go_ret
    exact ⟨rfl, HB18.out⟩
end Go.Proofs.Ytmlkfkpffbbfaaa
