/- The walk of the law OpMany. -/
import Derived.Test.YtmmdkpnoncnjnaaOpEncW
import Derived.Test.YtmmdkpnoncnjnaaOpDecW
import Derived.Test.YtmmdkpnoncnjnaaMiscK
import Derived.Test.YtmmdkpnoncnjnaaRegK
namespace Go.Proofs.Ytmmdkpnoncnjnaa
open Go.RowKit

theorem own_blkB {w : World} {g base n : Nat} {ys : List UInt8} (h : Blk w g 5 (ys.map bv).toArray) (hn : ys.length = n) (hb : base ≤ g) (hm : n ≤ maxLen) : OwnB w base (some ⟨g, 0, none⟩) n n ys :=
  ⟨by simp [hn], .inr ⟨g, n, (ys.map bv).toArray, rfl, hb, h, Nat.le_refl _, hm, by simp [hn], by rw [List.toList_toArray, Nat.mul_one, ← hn]; exact List.take_of_length_le (by simp)⟩⟩
theorem wpList_appW {w : World} {ops : Array Oper} {rest : List Oper} {o : Oper} {a : Act} {Q : Exit → Act → World → Prop} (hgd : o.guard = none) (s x : Operand)
    (ho : o.op = .call { callee := .builtin .append, args := #[s, x], argTypes := #[32, 32] })
    {base n c m c' : Nat} {A A' : Option Addr} {xs ys : List UInt8} (hs : a.eval s = .slice A n c) (hown : OwnB w base A n c xs) (hx : a.eval x = .slice A' m c') (hr : RV w A' (ys.map bv)) (hm : ys.length = m) (hn6 : n ≤ 1000000) (hb : n + m ≤ 200000000000000) (hnil : A' = none → m = 0 ∧ c' = 0) (hbase : base ≤ w.heap.size)
    (h : ∀ A2 c2 w', Sl w' ⟨A2, c2, xs ++ ys⟩ → Below base w w' → wpList Try.prog ops Q rest (a.put o.dst (.slice A2 (n + m) c2)) w') :
    wpList Try.prog ops Q (o :: rest) a w := by
  obtain ⟨A2, c2, w', hrun, h2, h3⟩ := run_app_wide w o.type hown (c' := c') hr hm hn6 hb hnil hbase
  refine wpList_plain hgd fun _ hK => ?_
  unfold Oper.wp execOp
  simp only [ho, resolve, invoke, builtin, Sem.run_bind, Sem.run_pure, Result.andThen_ok, List.map_toArray, List.map_cons, List.map_nil, hs, hx, hrun]
  exact hK _ _ (h A2 c2 w' h2 h3)
set_option maxRecDepth 100000 in
set_option maxHeartbeats 2000000 in
theorem many_walk (a0 a2 : Int) (x : Ins) (A : Option Addr) (c : Nat) (ys : List UInt8) (w : World) (hx : InsOk x) (hS : Sl w ⟨A, c, ys⟩) (hl : ys.length ≤ 140737488351232) :
    Calls Try.prog 6 #[.int .i64 a0, .agg #[.int .i64 x.op, .int .i64 x.a], .int .i64 a2, .slice A ys.length c] w fun e w' => e = .returned (.bool true) ∧ Below w.heap.size w w' := by
  have HS := Lib.hid hS
  have Hx := Lib.hid hx
  clear hS hx
  obtain ⟨k0, hk0⟩ := Int.eq_ofNat_of_zero_le (Int.emod_nonneg a0 (b := ((6 : Nat) : Int)) (by decide))
  have hk06 : k0 < 6 := by have := Int.emod_lt_of_pos a0 (b := ((6 : Nat) : Int)) (by decide); omega
  obtain ⟨n, hn⟩ : ∃ n, n = 4093 + k0 := ⟨_, rfl⟩
  obtain ⟨k2, hk2⟩ := Int.eq_ofNat_of_zero_le (Int.emod_nonneg a2 (b := (n : Int)) (by omega))
  have hk2n : k2 < n := by have := Int.emod_lt_of_pos a2 (b := (n : Int)) (by omega); omega
  have Hk0 := Lib.hid hk0
  have Hk2 := Lib.hid hk2
  have hn1 : n ≤ 4099 := by omega
  have hn2 : 4093 ≤ n := by omega
  have hnI : (4093 : Int) + (k0 : Int) = (n : Int) := by omega
  clear hk0 hk2 hn
  go_enter Try.func6, Try.ntmps6
  go_wp2_with fail
  obtain ⟨w0, hw0⟩ : ∃ w0, w0 = w.alloc (.cells #[.int .i64 x.op, .int .i64 x.a] 48) := ⟨_, rfl⟩
  rw [← hw0]
  have hb0 : Below w.heap.size w w0 := by rw [hw0]; exact (Below.refl _ _).alloc (Nat.le_refl _) _
  have hX0 : Blk w0 w.heap.size 48 #[.int .i64 x.op, .int .i64 x.a] := by rw [hw0]; exact Blk.new _ _ _
  have hz0 : w.heap.size < w0.heap.size := hX0.lt
  have Hb0 := Lib.hid hb0
  have HX0 := Lib.hid hX0
  clear hw0 hb0 hX0
  refine (known_any _).mono ?_
  rintro e w1 ⟨rfl, hb1⟩
  have hz1 := hb1.size
  have Hb1 := Lib.hid (Hb0.out.trans (hb1.mono (by omega)))
  have HX1 := Lib.hid (HX0.out.below hb1 hz0)
  clear hb1
  go_wp2_with fail
  refine (round_any a0 6 k0 Hk0.out.symm (by decide) (by decide) w1).mono ?_
  rintro e w2 ⟨rfl, rfl⟩
  go_wp2_with (refine wpList_at 19 rfl ?_; refine wpList_makeN rfl (.tmp 18) (.tmp 18) (v := .int .i64 0) rfl Try.underlying30 ins_info (by decide) (by intro k hk; match k, hk with | 0, _ => rfl | 1, _ => rfl) .i64 .i64 (n : Int) n rfl rfl rfl (by omega) (by unfold maxLen; omega) ?_; intro w3 hblk3 hb3 hz3)
  obtain ⟨g, hg⟩ : ∃ g, g = w2.heap.size := ⟨_, rfl⟩
  rw [← hg] at hblk3 ⊢
  have hg1 : w2.heap.size ≤ g := by omega
  have hI3 : BlkI w3 g (List.replicate n (⟨0, 0⟩ : Ins)) := by rw [zeros_flat] at hblk3; exact hblk3
  have HB3 := Lib.hid (Hb1.out.trans (hb3.mono (by omega)))
  have HX3 := Lib.hid (HX1.out.below hb3 (by omega))
  have hz23 : w2.heap.size ≤ w3.heap.size := by omega
  have hgl3 := hI3.lt
  have x0 : w3.cell? ⟨w.heap.size, 0, none⟩ = some (.int .i64 x.op) := HX3.out.cell 0
  have x1 : w3.cell? ⟨w.heap.size, 1, none⟩ = some (.int .i64 x.a) := HX3.out.cell 1
  have hxl := HX3.out.lt
  have HI3 := Lib.hid hI3
  clear hz3 hg hblk3 hb3 hI3
  have hrnd := fun w => round_any a2 n k2 Hk2.out.symm (by omega) (by omega) w
  have Hrnd := Lib.hid hrnd
  have hk2I : (k2 : Int) < (n : Int) := by omega
  clear hrnd
  try simp only [Act.put]
  refine region_quiet_tail 6 (fun w' => ∃ m, w' = w3.drewN m) (by kernel_rfl) (by kernel_rfl) ⟨1, rfl⟩ ?_
  simp only [List.take_succ_cons, List.take_zero, List.drop_succ_cons, List.drop_zero]
  repeat (go_big_quiet_step (with_reducible exact Calls.quiet_of_same (Hrnd.out _)))
  refine wpQuiet_nil ?_
  rintro _ ⟨m1, rfl⟩
  obtain ⟨w4, hw4⟩ : ∃ w4, w4 = w3.drewN m1 := ⟨_, rfl⟩
  rw [← hw4]
  have hb34 : Below w3.heap.size w3 w4 := by rw [hw4]; exact below_drewN (Below.refl _ _) m1
  have hz34 := hb34.size
  have hI4 := Blk.below HI3.out hb34 hgl3
  have hk2l : k2 < (List.replicate n (⟨0, 0⟩ : Ins)).length := by rw [List.length_replicate]; exact hk2n
  obtain ⟨c0, c1⟩ := BlkI.at_ hI4 k2 hk2l
  have f0 := Blk.frozen hI4 (k2 * 2)
  have f1 := Blk.frozen hI4 (k2 * 2 + 1)
  have hgl4 := Blk.lt hI4
  have HI4 := Lib.hid hI4
  have HB4 := Lib.hid (HB3.out.trans (hb34.mono (by omega)))
  clear hw4 hb34 x0 x1 HX3 HX1 HX0 hI4
  generalize (List.replicate n (⟨0, 0⟩ : Ins))[k2] = y at *
  obtain ⟨ls, hls⟩ : ∃ ls, ls = (List.replicate n (⟨0, 0⟩ : Ins)).set k2 x := ⟨_, rfl⟩
  have hlsl : ls.length = n := by rw [hls]; simp
  have Hlsl := Lib.hid hlsl
  have hlsok : ∀ i ∈ ls, InsOk i := fun i hi => by
    rw [hls] at hi
    rcases List.mem_or_eq_of_mem_set hi with h | h
    · rw [List.eq_of_mem_replicate h]; exact ⟨by decide, by decide, by decide, by decide⟩
    · rw [h]; exact Hx.out
  have Hlsok := Lib.hid hlsok
  have hI5 := BlkI.put HI4.out k2 hk2l x
  rw [← hls] at hI5
  have hO5 : Only (fun b => b = g) w4 ((w4.setCell ⟨g, k2 * 2, none⟩ (.int .i64 x.op)).setCell ⟨g, k2 * 2 + 1, none⟩ (.int .i64 x.a)) := ((Only.refl (fun b => b = g) w4).setCell (p := ⟨g, k2 * 2, none⟩) (.inl rfl) _).setCell (p := ⟨g, k2 * 2 + 1, none⟩) (.inl rfl) _
  have HI5 := Lib.hid hI5
  have HO5 := Lib.hid hO5
  clear hls hlsl hlsok hI5 hO5
  go_wp2_with fail
  generalize hw5 : World.setCell (w4.setCell ⟨g, k2 * 2, none⟩ (.int .i64 x.op)) ⟨g, k2 * 2 + 1, none⟩ (.int .i64 x.a) = w5
  rw [hw5] at HI5 HO5
  have hz45 := HO5.out.size
  have hgl5 := Blk.lt HI5.out
  have HB5 := Lib.hid (HB4.out.trans (HO5.out.below (B := w.heap.size) (by omega) fun k hk e => by omega))
  have hrv5 : RV w5 (some ⟨g, 0, none⟩) (ls.flatMap insCells) := by
    have h := BlkI.rv HI5.out ls.length (Nat.le_refl _)
    rwa [List.take_length] at h
  have henc := encodes_walk (some ⟨g, 0, none⟩) n ls w5 ⟨hrv5, Hlsok.out⟩ (by rw [Hlsl.out]; omega)
  rw [Hlsl.out] at henc
  have Henc := Lib.hid henc
  clear hw5 c0 c1 f0 f1 HI4 HB4 HI3 HB3 hrv5 henc HO5 Hrnd
  refine Henc.out.mono ?_
  rintro e w6 ⟨rfl, hb56⟩
  have hz56 := hb56.size
  have HI6 := Lib.hid (Blk.below HI5.out hb56 hgl5)
  have HB6 := Lib.hid (HB5.out.trans (hb56.mono (by omega)))
  have hrv6 : RV w6 (some ⟨g, 0, none⟩) (ls.flatMap insCells) := by
    have h := BlkI.rv HI6.out ls.length (Nat.le_refl _)
    rwa [List.take_length] at h
  have hren := refEncode_any (some ⟨g, 0, none⟩) n ls w6 hrv6 Hlsok.out (by rw [Hlsl.out]; unfold maxLen; omega)
  rw [Hlsl.out] at hren
  obtain ⟨xs, f, hen⟩ : ∃ xs f, encL ls = (xs, f) := ⟨_, _, rfl⟩
  have hxs : xs.length ≤ 100000 := by
    rcases encL_snd ls with h | h
    · rw [hen] at h
      dsimp only at h
      subst h
      obtain ⟨h1, h2, h3⟩ := encL_ok hen
      have := flat_le ls h3
      rw [h2]
      omega
    · rw [hen] at h; dsimp only at h; rw [h]; simp
  rw [hen] at hren
  have Hren := Lib.hid hren
  clear hen hren hrv6 Henc HI5 HB5 hb56
  go_wp2_with fail
  refine Hren.out.mono ?_
  intro e w7 hpost
  obtain ⟨A7, c7, rfl, hown7, hb67⟩ := hpost
  have hz67 := hb67.size
  have HB7 := Lib.hid (HB6.out.trans (hb67.mono (by omega)))
  have Hown7 := Lib.hid hown7
  clear hown7 hb67 Hren HI6
  dsimp only at *
  by_cases hf : f = 0
  · subst hf
    have hr7 := (HS.out.below HB7.out).rv
    have hnil := HS.out.nil
    dsimp only at hr7 hnil
    have Hnil := Lib.hid hnil
    clear hnil
    go_wp2_with (refine wpList_at 40 rfl ?_; refine wpList_appW rfl (.tmp 38) (.tmp 39) rfl (base := w6.heap.size) (n := xs.length) (c := c7) (m := ys.length) (c' := c) (A := A7) (A' := A) (xs := xs) (ys := ys) rfl Hown7.out rfl hr7 rfl (by omega) (by omega) Hnil.out (by omega) ?_; intro A8 c8 w8 hs8 hb8)
    have hz8 := hb8.size
    have hdec := decodes_walk A8 c8 (xs ++ ys) w8 hs8 (by rw [List.length_append]; omega)
    rw [List.length_append] at hdec
    have Hdec := Lib.hid hdec
    have HB8 := Lib.hid (HB7.out.trans (hb8.mono (by omega)))
    clear hdec hs8 hb8
    refine Hdec.out.mono ?_
    rintro e w9 ⟨rfl, hb9⟩
    have HB9 := Lib.hid (HB8.out.trans (hb9.mono HB8.out.size))
    clear hb9
    go_wp2_with fail
    go_ret
    exact ⟨rfl, HB9.out⟩
  · have hnil := HS.out.nil
    dsimp only at hnil
    have Hnil := Lib.hid hnil
    clear hnil
    go_wp2_with (refine wpList_at 37 rfl ?_; refine wpList_make1 rfl (.tmp 36) (.tmp 36) rfl Try.underlying32 byte_info rfl .i64 .i64 (n : Int) n rfl rfl rfl (by omega) (by unfold maxLen; omega) ?_; intro w8 hblk8 hb8 hz8; refine wp_stop ?_)
    refine ⟨?_⟩
    have hown8 : OwnB w8 w7.heap.size (some ⟨w7.heap.size, 0, none⟩) n n (List.replicate n 0) := own_blkB (by rw [List.map_replicate]; exact hblk8) (by simp) (Nat.le_refl _) (by unfold maxLen; omega)
    have hz78 : w7.heap.size ≤ w8.heap.size := hb8.size
    have HB8 := Lib.hid (HB7.out.trans (hb8.mono (by omega)))
    have hr8 := (HS.out.below HB8.out).rv
    dsimp only at hr8
    have Hown8 := Lib.hid hown8
    clear hblk8 hb8 hz8 hown8
    go_wp2_with (refine wpList_at 40 rfl ?_; refine wpList_appW rfl (.tmp 38) (.tmp 39) rfl (base := w7.heap.size) (n := n) (c := n) (m := ys.length) (c' := c) (A := some ⟨w7.heap.size, 0, none⟩) (A' := A) (xs := List.replicate n 0) (ys := ys) rfl Hown8.out rfl hr8 rfl (by omega) (by omega) Hnil.out hz78 ?_; intro A9 c9 w9 hs9 hb9)
    have hz9 := hb9.size
    have hdec := decodes_walk A9 c9 (List.replicate n 0 ++ ys) w9 hs9 (by rw [List.length_append, List.length_replicate]; omega)
    rw [List.length_append, List.length_replicate] at hdec
    have Hdec := Lib.hid hdec
    have HB9 := Lib.hid (HB8.out.trans (hb9.mono (by omega)))
    clear hdec hs9 hb9
    refine Hdec.out.mono ?_
    rintro e w10 ⟨rfl, hb10⟩
    have HB10 := Lib.hid (HB9.out.trans (hb10.mono HB9.out.size))
    clear hb10
    go_wp2_with fail
    go_ret
    exact ⟨rfl, HB10.out⟩
end Go.Proofs.Ytmmdkpnoncnjnaa
