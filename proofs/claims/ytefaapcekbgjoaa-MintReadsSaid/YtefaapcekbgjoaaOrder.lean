/- The law MintOrder, its walk. -/
import Derived.Test.YtefaapcekbgjoaaRefK
namespace Go.Proofs.Ytefaapcekbgjoaa
open Go.RowKit

theorem ahead_step (xs ys : List UInt8) (k : Nat) (hx : k < xs.length) (hy : k < ys.length) (he : xs[k] = ys[k]) : aheadL (xs.drop k) (ys.drop k) = aheadL (xs.drop (k + 1)) (ys.drop (k + 1)) := by
  rw [List.drop_eq_getElem_cons hx, List.drop_eq_getElem_cons hy]
  simp only [aheadL, if_pos he]
theorem ahead_diff (xs ys : List UInt8) (k : Nat) (hx : k < xs.length) (hy : k < ys.length) (he : xs[k] ≠ ys[k]) : aheadL (xs.drop k) (ys.drop k) = decide (xs[k].toNat < ys[k].toNat) := by
  rw [List.drop_eq_getElem_cons hx, List.drop_eq_getElem_cons hy]
  simp only [aheadL, if_neg he]
theorem ahead_end (xs ys : List UInt8) (k : Nat) (h : ¬ (k < xs.length ∧ k < ys.length)) : aheadL (xs.drop k) (ys.drop k) = false := by
  by_cases hx : k < xs.length
  · have e : ys.drop k = [] := List.drop_eq_nil_of_le (by omega)
    rw [e]
    cases xs.drop k <;> rfl
  · have e : xs.drop k = [] := List.drop_eq_nil_of_le (by omega)
    rw [e]
    rfl

theorem ahead_any (p q : Part) (w : World) (hp : Sl w p) (hq : Sl w q) (hl : p.ys.length ≤ 9223372036854775807) (hm : q.ys.length ≤ 9223372036854775807) :
    Calls Try.prog 15 #[.slice p.A p.ys.length p.c, .slice q.A q.ys.length q.c] w (QuietRet w (.bool (aheadL p.ys q.ys))) := by
  obtain ⟨A, c, xs⟩ := p
  obtain ⟨A', c', ys⟩ := q
  have hr : RV w A (xs.map bv) := hp.rv
  have hr' : RV w A' (ys.map bv) := hq.rv
  clear hp hq
  change xs.length ≤ _ at hl
  change ys.length ≤ _ at hm
  go_enter Try.func15, Try.ntmps15
  go_wp2_with fail
  go_loopw [5] (fun i wr => ∃ k n : Nat, k ≤ xs.length ∧ i = .int .i64 k ∧ Hid (wr = w.drewN n) ∧ Hid (aheadL xs ys = aheadL (xs.drop k) (ys.drop k))) (fun i _ => xs.length - (intOf i).toNat)
  case atStart => exact ⟨0, 0, Nat.zero_le _, rfl, rfl, rfl⟩
  case round =>
    obtain ⟨k, n, hk, rfl, hwr, HT⟩ := hrel
    have e := hwr.out
    subst e
    clear hwr
    by_cases hlt : k < xs.length ∧ k < ys.length
    · obtain ⟨hlt, hlt'⟩ := hlt
      obtain ⟨b, off, rfl, hb, hc⟩ := hr.byte hlt
      obtain ⟨b', off', rfl, hb', hc'⟩ := hr'.byte hlt'
      have hl1 : (k : Int) < xs.length := by omega
      have hl2 : (k : Int) < ys.length := by omega
      by_cases heq : xs[k] = ys[k]
      · have ht : ((xs[k].toNat : Int) != (ys[k].toNat : Int)) = false := by simp [heq]
        have HT2 : Hid (aheadL xs ys = aheadL (xs.drop (k + 1)) (ys.drop (k + 1))) := HT.out.trans (ahead_step xs ys k hlt hlt' heq)
        clear heq
        go_wp2_with fail
        go_quiet (fail)
        go_wp2_with fail
        exact ⟨⟨k + 1, n + nq, by omega, by go_num, rfl, HT2⟩, by simp [intOf]; omega⟩
      · have ht : ((xs[k].toNat : Int) != (ys[k].toNat : Int)) = true := by
          rw [bne_iff_ne]; intro h; exact heq (UInt8.toNat_inj.1 (by omega))
        have hres : Hid (aheadL xs ys = decide (xs[k].toNat < ys[k].toNat)) := HT.out.trans (ahead_diff xs ys k hlt hlt' heq)
        clear heq
        go_wp2_with fail
        go_quiet (fail)
        go_wp2_with fail
        revert nq
        intro n1
        go_quiet (fail)
        go_wp2_with fail
        go_ret
        refine ⟨?_, n + n1 + nq, by simp [World.drewN_drewN, Nat.add_assoc]⟩
        show _ = Ending.returned (.bool (aheadL xs ys))
        rw [hres.out]
        simp
    · have hres : Hid (aheadL xs ys = false) := HT.out.trans (ahead_end xs ys k hlt)
      by_cases h1 : k < xs.length
      · have h2 : ¬ (k : Int) < ys.length := by omega
        clear hlt
        go_wp2_with fail
        go_ret
        exact ⟨by show _ = Ending.returned (.bool (aheadL xs ys)); rw [hres.out]; rfl, n, rfl⟩
      · clear hlt
        go_wp2_with fail
        go_ret
        exact ⟨by show _ = Ending.returned (.bool (aheadL xs ys)); rw [hres.out]; rfl, n, rfl⟩

theorem new_wr (w : World) : Wr (w.alloc (.cells #[.slice none 0 0, .int .i64 0] 94)) w.heap.size w.heap.size none 0 [] 0 := ⟨Blk.new w _ _, Own.nil _ _ _ _⟩

theorem lawForm_any (n : Nat) (w : World) (hn : n < 9223372036854775808) :
    Calls Try.prog 13 #[.int .i64 n] w (FreshB w (formL n)) := by
  have Hn := Lib.hid hn
  clear hn
  have hnum : numL [] 0 n = (formL n, 0) := by
    unfold numL putL
    rw [if_neg (by omega), if_pos rfl, if_pos (by have := formL_le n; simp; omega)]
    rfl
  have Hnum := Lib.hid hnum
  clear hnum
  go_enter Try.func13, Try.ntmps13
  go_wp2_with fail
  refine (new_any _).mono ?_
  rintro e w1 ⟨rfl, rfl⟩
  go_wp2_with fail
  refine (num_any w.heap.size w.heap.size none 0 [] 0 n _ (new_wr w) (by have := Hn.out; omega) (by simp) (by simp)).mono ?_
  rintro e w2 ⟨rfl, hpost⟩
  rw [Hnum.out] at hpost
  obtain ⟨A, c, hW, hA, hO⟩ := hpost
  have HA := Lib.hid hA
  clear hA
  have hb : Below w.heap.size w w2 := ((Below.refl _ _).alloc (Nat.le_refl _) _).trans (hO.below (by simp) fun k hk => by rintro (h | h); omega; cases h)
  clear hO
  go_wp2_with fail
  refine (done_any _ _ A c _ 0 _ hW (by have := formL_le n; omega)).mono ?_
  rintro e w3 ⟨A3, c3, rfl, hown3, hb3⟩
  have hd : doneL (formL n) 0 = formL n := rfl
  rw [hd] at hown3 ⊢
  clear hd
  go_wp2_with fail
  go_ret
  exact ⟨A3, c3, rfl, hown3.mono hb.size, hb.trans (hb3.mono hb.size)⟩

theorem nonNeg_of (a : Int) (h1 : -9223372036854775808 ≤ a) (h2 : a ≤ 9223372036854775807) : (∃ n : Nat, a = n ∧ n < 9223372036854775808) ∨ (a < 0 ∧ ∃ n : Nat, -(a + 1) = n ∧ n < 9223372036854775808) := by
  rcases Int.lt_or_le a 0 with h | h
  · exact .inr ⟨h, (-(a + 1)).toNat, by omega, by omega⟩
  · exact .inl ⟨a.toNat, by omega, by omega⟩

set_option maxRecDepth 100000 in
set_option maxHeartbeats 1000000 in
theorem order_walk (a b : Int) (w : World) (ha1 : -9223372036854775808 ≤ a) (ha2 : a ≤ 9223372036854775807) (hb1 : -9223372036854775808 ≤ b) (hb2 : b ≤ 9223372036854775807) :
    Calls Try.prog 3 #[.int .i64 a, .int .i64 b] w fun e w' => e = .returned (.bool true) ∧ Below w.heap.size w w' := by
  have hA : ∃ n : Nat, n < 9223372036854775808 ∧ ((a = n) ∨ (a < 0 ∧ Hid (-(a + 1) = n))) := by
    rcases nonNeg_of a ha1 ha2 with ⟨n, h, h'⟩ | ⟨h, n, h', h''⟩
    · exact ⟨n, h', .inl h⟩
    · exact ⟨n, h'', .inr ⟨h, h'⟩⟩
  have hB : ∃ n : Nat, n < 9223372036854775808 ∧ ((b = n) ∨ (b < 0 ∧ Hid (-(b + 1) = n))) := by
    rcases nonNeg_of b hb1 hb2 with ⟨n, h, h'⟩ | ⟨h, n, h', h''⟩
    · exact ⟨n, h', .inl h⟩
    · exact ⟨n, h'', .inr ⟨h, h'⟩⟩
  obtain ⟨n, hn0, hA⟩ := hA
  obtain ⟨m, hm0, hB⟩ := hB
  have hn := Lib.hid hn0
  have hm := Lib.hid hm0
  have l1 := formL_pos n
  have l2 := formL_le n
  have l3 := formL_pos m
  have l4 := formL_le m
  have hord := ahead_form n m (by omega) (by omega)
  have hord' := ahead_form m n (by omega) (by omega)
  have Hord := Lib.hid hord
  have Hord' := Lib.hid hord'
  clear hn0 hm0 hord hord'
  rcases hA with rfl | ⟨ha, hna⟩ <;> rcases hB with rfl | ⟨hb, hnb⟩
  all_goals
    by_cases hnm : n = m
    · subst hnm
      go_enter Try.func3, Try.ntmps3
      go_wp2_with fail
      try rw [hna.out]
      refine (lawForm_any n _ hn.out).mono ?_
      rintro e w1 ⟨A1, c1, rfl, hown1, hb1⟩
      go_wp2_with fail
      try rw [hnb.out]
      refine (lawForm_any n _ hm.out).mono ?_
      rintro e w2 ⟨A2, c2, rfl, hown2, hb2⟩
      have hs1 := (Sl.of_own hown1).below hb2
      have hs2 := Sl.of_own hown2
      have hB2 := hb1.trans (hb2.mono hb1.size)
      have k1 := same_any ⟨A1, c1, formL n⟩ ⟨A2, c2, formL n⟩ w2 hs1 hs2 (by show _ ≤ 9223372036854775807; dsimp only; omega) (by show _ ≤ 9223372036854775807; dsimp only; omega)
      dsimp only at k1
      rw [show (formL n == formL n) = true from by simp] at k1
      have K1 := Lib.hid k1
      clear k1
      have heq : ((n : Int) == (n : Int)) = true := by simp
      go_wp2_with fail
      refine K1.out.mono ?_
      rintro e w3 ⟨rfl, q, rfl⟩
      go_wp2_with fail
      go_ret
      exact ⟨rfl, below_drewN hB2 q⟩
    ·
      go_enter Try.func3, Try.ntmps3
      go_wp2_with fail
      try rw [hna.out]
      refine (lawForm_any n _ hn.out).mono ?_
      rintro e w1 ⟨A1, c1, rfl, hown1, hb1⟩
      go_wp2_with fail
      try rw [hnb.out]
      refine (lawForm_any m _ hm.out).mono ?_
      rintro e w2 ⟨A2, c2, rfl, hown2, hb2⟩
      have hs1 := (Sl.of_own hown1).below hb2
      have hs2 := Sl.of_own hown2
      have hB2 := hb1.trans (hb2.mono hb1.size)
      by_cases hlt : n < m
      · have g2 : ((n : Int) == (m : Int)) = false := by simp; omega
        have k1 := ahead_any ⟨A1, c1, formL n⟩ ⟨A2, c2, formL m⟩ w2 hs1 hs2 (by show _ ≤ 9223372036854775807; dsimp only; omega) (by show _ ≤ 9223372036854775807; dsimp only; omega)
        have k2 := fun q => ahead_any ⟨A2, c2, formL m⟩ ⟨A1, c1, formL n⟩ (w2.drewN q) (hs2.drewN q) (hs1.drewN q) (by show _ ≤ 9223372036854775807; dsimp only; omega) (by show _ ≤ 9223372036854775807; dsimp only; omega)
        dsimp only at k1 k2
        rw [Hord.out hnm, show decide (n < m) = true from by simp; omega] at k1
        rw [Hord'.out (Ne.symm hnm), show decide (m < n) = false from by simp; omega] at k2
        have K1 := Lib.hid k1
        have K2 := Lib.hid k2
        have Hnm := Lib.hid hnm
        clear k1 k2 hnm
        go_wp2_with fail
        refine K1.out.mono ?_
        rintro e w3 ⟨rfl, q1, rfl⟩
        go_wp2_with fail
        refine (K2.out q1).mono ?_
        rintro e w4 ⟨rfl, q2, rfl⟩
        go_wp2_with fail
        go_ret
        exact ⟨congrArg (fun b => Ending.returned (Value.bool b)) (by have := Hnm.out; simp; omega), below_drewN hB2 _⟩
      · have g2 : ((n : Int) == (m : Int)) = false := by simp; omega
        have k1 := ahead_any ⟨A1, c1, formL n⟩ ⟨A2, c2, formL m⟩ w2 hs1 hs2 (by show _ ≤ 9223372036854775807; dsimp only; omega) (by show _ ≤ 9223372036854775807; dsimp only; omega)
        have k2 := fun q => ahead_any ⟨A2, c2, formL m⟩ ⟨A1, c1, formL n⟩ (w2.drewN q) (hs2.drewN q) (hs1.drewN q) (by show _ ≤ 9223372036854775807; dsimp only; omega) (by show _ ≤ 9223372036854775807; dsimp only; omega)
        dsimp only at k1 k2
        rw [Hord.out hnm, show decide (n < m) = false from by simp; omega] at k1
        rw [Hord'.out (Ne.symm hnm), show decide (m < n) = true from by simp; omega] at k2
        have K1 := Lib.hid k1
        have K2 := Lib.hid k2
        have Hnm := Lib.hid hnm
        clear k1 k2 hnm
        go_wp2_with fail
        refine K1.out.mono ?_
        rintro e w3 ⟨rfl, q1, rfl⟩
        go_wp2_with fail
        refine (K2.out q1).mono ?_
        rintro e w4 ⟨rfl, q2, rfl⟩
        go_wp2_with fail
        go_ret
        exact ⟨congrArg (fun b => Ending.returned (Value.bool b)) (by have := Hnm.out; simp; omega), below_drewN hB2 _⟩
end Go.Proofs.Ytefaapcekbgjoaa
