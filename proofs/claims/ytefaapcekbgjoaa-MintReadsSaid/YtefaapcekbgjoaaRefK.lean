/- Several texts in one: OrdL RefL Cmp Lend Put RefA RefB RefC WritesL. -/
import Derived.Test.YtefaapcekbgjoaaMintK
import Derived.Test.YtefaapcekbgjoaaBaseK
namespace Go.Proofs.Ytefaapcekbgjoaa

section
/- Numbers' forms are in order as the numbers are: plain lists. -/

/-- Does a stand ahead of b, byte by byte, and not as its front? -/
def aheadL : List UInt8 → List UInt8 → Bool
  | a :: l, b :: m => if a = b then aheadL l m else decide (a.toNat < b.toNat)
  | _, _ => false

theorem ofNat8_inj (x y : Nat) : UInt8.ofNat x = UInt8.ofNat y ↔ x % 256 = y % 256 := by
  rw [← UInt8.toNat_inj, toNat_ofNat8, toNat_ofNat8]
theorem ahead_cons (x y : Nat) (l m : List UInt8) : aheadL (UInt8.ofNat x :: l) (UInt8.ofNat y :: m) = if x % 256 = y % 256 then aheadL l m else decide (x % 256 < y % 256) := by
  show (if UInt8.ofNat x = UInt8.ofNat y then aheadL l m else decide ((UInt8.ofNat x).toNat < (UInt8.ofNat y).toNat)) = _
  by_cases h : x % 256 = y % 256
  · rw [if_pos ((ofNat8_inj x y).2 h), if_pos h]
  · rw [if_neg (fun e => h ((ofNat8_inj x y).1 e)), if_neg h, toNat_ofNat8, toNat_ofNat8]

theorem mod_step (u k : Nat) : u % 2 ^ (8 * (k + 1)) = u / 2 ^ (8 * k) % 256 * 2 ^ (8 * k) + u % 2 ^ (8 * k) := by
  have e : 2 ^ (8 * (k + 1)) = 2 ^ (8 * k) * 256 := by rw [Nat.mul_add, Nat.pow_add]
  rw [e, Nat.mod_mul, Nat.add_comm, Nat.mul_comm]

theorem ahead_be (a b k : Nat) : aheadL (beBytes a k) (beBytes b k) = decide (a % 2 ^ (8 * k) < b % 2 ^ (8 * k)) := by
  induction k with
  | zero => simp [beBytes, aheadL, Nat.mod_one]
  | succ k ih =>
    show aheadL (UInt8.ofNat (a / 2 ^ (8 * k)) :: beBytes a k) (UInt8.ofNat (b / 2 ^ (8 * k)) :: beBytes b k) = _
    rw [ahead_cons, ih, mod_step a k, mod_step b k]
    have hp := Nat.two_pow_pos (8 * k)
    have h1 := Nat.mod_lt a hp
    have h2 := Nat.mod_lt b hp
    generalize a / 2 ^ (8 * k) % 256 = x
    generalize b / 2 ^ (8 * k) % 256 = y
    generalize a % 2 ^ (8 * k) = r at *
    generalize b % 2 ^ (8 * k) = s at *
    generalize 2 ^ (8 * k) = m at *
    by_cases h : x = y
    · subst h
      rw [if_pos rfl]
      congr 1
      exact propext ⟨fun h => by omega, fun h => by omega⟩
    · rw [if_neg h]
      congr 1
      apply propext
      rcases Nat.lt_or_gt_of_ne h with hlt | hgt
      · have : (x + 1) * m ≤ y * m := Nat.mul_le_mul_right _ hlt
        rw [Nat.add_mul] at this
        exact ⟨fun _ => by omega, fun _ => hlt⟩
      · have : (y + 1) * m ≤ x * m := Nat.mul_le_mul_right _ hgt
        rw [Nat.add_mul] at this
        exact ⟨fun h => by omega, fun h => by omega⟩

theorem byteCnt_lt (u k : Nat) (h : u < 2 ^ (8 * k)) : u < 2 ^ (8 * byteCnt u k) := by
  induction k with
  | zero => exact h
  | succ k ih =>
    unfold byteCnt
    split
    · rename_i h0
      refine ih ?_
      rcases Nat.div_eq_zero_iff.1 h0 with h1 | h1
      · have := Nat.two_pow_pos (8 * k); omega
      · exact h1
    · exact h
theorem byteCnt_ge (u k j : Nat) (h : byteCnt u k = j + 1) : 2 ^ (8 * j) ≤ u := by
  induction k with
  | zero => cases h
  | succ k ih =>
    unfold byteCnt at h
    split at h
    · exact ih h
    · rename_i h0
      obtain rfl : k = j := by omega
      rcases Nat.lt_or_ge u (2 ^ (8 * k)) with h1 | h1
      · exact absurd (Nat.div_eq_of_lt h1) h0
      · exact h1
theorem byteCnt_mono (a b : Nat) (ha : a < 2 ^ 64) (hlt : byteCnt a 8 < byteCnt b 8) : a < b := by
  obtain ⟨j, hj⟩ : ∃ j, byteCnt b 8 = j + 1 := ⟨byteCnt b 8 - 1, by omega⟩
  have h1 := byteCnt_ge b 8 j hj
  have h2 := byteCnt_lt a 8 (by exact ha)
  have h3 : 2 ^ (8 * byteCnt a 8) ≤ 2 ^ (8 * j) := Nat.pow_le_pow_right (by omega) (by omega)
  omega

/-- The forms of two unlike numbers are in order as the numbers are. -/
theorem ahead_form (a b : Nat) (ha : a < 2 ^ 64) (hb : b < 2 ^ 64) (hne : a ≠ b) : aheadL (formL a) (formL b) = decide (a < b) := by
  have ca := byteCnt_le a 8
  have cb := byteCnt_le b 8
  by_cases h1 : a < 248 <;> by_cases h2 : b < 248
  · simp only [formL, if_pos h1, if_pos h2]
    rw [ahead_cons, if_neg (by omega), Nat.mod_eq_of_lt (by omega), Nat.mod_eq_of_lt (by omega)]
  · have hp := byteCnt_pos b 8 (by omega) (by exact hb)
    simp only [formL, if_pos h1, if_neg h2]
    rw [ahead_cons, if_neg (by omega)]
    congr 1
    exact propext ⟨fun _ => by omega, fun _ => by omega⟩
  · have hp := byteCnt_pos a 8 (by omega) (by exact ha)
    simp only [formL, if_neg h1, if_pos h2]
    rw [ahead_cons, if_neg (by omega)]
    congr 1
    exact propext ⟨fun _ => by omega, fun _ => by omega⟩
  · simp only [formL, if_neg h1, if_neg h2]
    rw [ahead_cons]
    by_cases hc : byteCnt a 8 = byteCnt b 8
    · rw [hc, if_pos rfl, ahead_be]
      have l1 := byteCnt_lt a 8 (by exact ha)
      have l2 := byteCnt_lt b 8 (by exact hb)
      rw [hc] at l1
      rw [Nat.mod_eq_of_lt l1, Nat.mod_eq_of_lt l2]
    · rw [if_neg (by omega)]
      congr 1
      apply propext
      rcases Nat.lt_or_gt_of_ne hc with h | h
      · have := byteCnt_mono a b ha h
        exact ⟨fun _ => this, fun _ => by omega⟩
      · have := byteCnt_mono b a hb h
        exact ⟨fun _ => by omega, fun _ => by omega⟩
end

section
/- The reference's way to a number's form, plain lists: the bytes from the highest on, zeros ahead left out. -/

/-- With j bytes still to come, out is what was written of u's bytes. -/
def FormR (u j : Nat) (out : List UInt8) : Prop := (out = [] ∧ byteCnt u 8 = byteCnt u j) ∨ (out ≠ [] ∧ out ++ beBytes u j = beBytes u (byteCnt u 8))
theorem FormR.start (u : Nat) : FormR u 8 [] := .inl ⟨rfl, rfl⟩
theorem FormR.len {u j : Nat} {out : List UInt8} (h : FormR u j out) (hj : j ≤ 8) : out.length + j ≤ 8 := by
  rcases h with ⟨rfl, _⟩ | ⟨_, h⟩
  · simpa using hj
  · have e := congrArg List.length h
    rw [List.length_append, length_beBytes, length_beBytes] at e
    have := byteCnt_le u 8
    omega
theorem small_of_cnt (u j : Nat) (hu : u < 2 ^ 64) (h : byteCnt u 8 = byteCnt u (j + 1)) : u / 2 ^ (8 * j) < 256 := by
  have h1 := byteCnt_lt u 8 (by exact hu)
  rw [h] at h1
  have h2 := byteCnt_le u (j + 1)
  have h3 : 2 ^ (8 * byteCnt u (j + 1)) ≤ 2 ^ (8 * (j + 1)) := Nat.pow_le_pow_right (by omega) (by omega)
  rw [Nat.div_lt_iff_lt_mul (Nat.two_pow_pos _)]
  have e : 2 ^ (8 * (j + 1)) = 256 * 2 ^ (8 * j) := by rw [Nat.mul_add, Nat.pow_add, Nat.mul_comm]
  omega
theorem FormR.skip {u j : Nat} (hu : u < 2 ^ 64) (h : FormR u (j + 1) []) (hx : u / 2 ^ (8 * j) % 256 = 0) : FormR u j [] := by
  rcases h with ⟨_, h⟩ | ⟨h, _⟩
  · refine .inl ⟨rfl, h.trans (byteCnt_step u j ?_)⟩
    have := small_of_cnt u j hu h
    generalize u / 2 ^ (8 * j) = y at *
    omega
  · exact absurd rfl h
theorem FormR.first {u j : Nat} (h : FormR u (j + 1) []) (hx : ¬ u / 2 ^ (8 * j) % 256 = 0) : FormR u j [UInt8.ofNat (u / 2 ^ (8 * j))] := by
  rcases h with ⟨_, h⟩ | ⟨h, _⟩
  · refine .inr ⟨by simp, ?_⟩
    rw [h, byteCnt_stop u j (fun e => hx (by rw [e]))]
    rfl
  · exact absurd rfl h
theorem FormR.next {u j : Nat} {out : List UInt8} (h : FormR u (j + 1) out) (ho : out ≠ []) : FormR u j (out ++ [UInt8.ofNat (u / 2 ^ (8 * j))]) := by
  rcases h with ⟨h, _⟩ | ⟨_, h⟩
  · exact absurd h ho
  · refine .inr ⟨by simp, ?_⟩
    rw [← h, List.append_assoc]
    rfl
theorem FormR.fin {u : Nat} {out : List UInt8} (h : FormR u 0 out) (hu : u < 2 ^ 64) (h0 : ¬ u < 248) : out = beBytes u (byteCnt u 8) := by
  rcases h with ⟨_, h⟩ | ⟨_, h⟩
  · have := byteCnt_pos u 8 (by omega) (by exact hu)
    rw [h] at this
    simp [byteCnt] at this
  · simpa [beBytes] using h
end

section
/- Contracts of the laws' own comparisons of bytes: Same. -/
open Go.RowKit

/-- The call handed back v; it drew answers, and turned nothing else. -/
def QuietRet (w : World) (v : Value) (e : Ending) (w' : World) : Prop := e = .returned v ∧ ∃ n, w' = w.drewN n
theorem RV.byte {w : World} {A : Option Addr} {ys : List UInt8} (h : RV w A (ys.map bv)) {k : Nat} (hk : k < ys.length) :
    ∃ b off, A = some ⟨b, off, none⟩ ∧ b < w.heap.size ∧ w.cell? ⟨b, off + k, none⟩ = some (.int .u8 (ys[k].toNat : Int)) := by
  obtain ⟨b, off, hA, hb, hc⟩ := h.at_ (by rw [List.length_map]; omega)
  exact ⟨b, off, hA, hb, hc k (bv ys[k]) (by rw [List.getElem?_map, List.getElem?_eq_getElem hk]; rfl)⟩
theorem take_eq_step {α : Type} (xs ys : List α) (k : Nat) (hx : k < xs.length) (hy : k < ys.length) (h : xs.take k = ys.take k) (he : xs[k] = ys[k]) : xs.take (k + 1) = ys.take (k + 1) := by
  rw [List.take_succ_eq_append_getElem hx, List.take_succ_eq_append_getElem hy, h, he]

theorem same_any (p q : Part) (w : World) (hp : Sl w p) (hq : Sl w q) (hl : p.ys.length ≤ 9223372036854775807) (hm : q.ys.length ≤ 9223372036854775807) :
    Calls Try.prog 14 #[.slice p.A p.ys.length p.c, .slice q.A q.ys.length q.c] w (QuietRet w (.bool (p.ys == q.ys))) := by
  obtain ⟨A, c, xs⟩ := p
  obtain ⟨A', c', ys⟩ := q
  have hr : RV w A (xs.map bv) := hp.rv
  have hr' : RV w A' (ys.map bv) := hq.rv
  clear hp hq
  change xs.length ≤ _ at hl
  change ys.length ≤ _ at hm
  by_cases hlen : xs.length = ys.length
  · have hne : ((xs.length : Int) != (ys.length : Int)) = false := by simp [hlen]
    have Hlen := Lib.hid hlen
    clear hlen
    go_enter Try.func14, Try.ntmps14
    go_wp2_with fail
    go_loopw [5] (fun i wr => ∃ k n : Nat, k ≤ xs.length ∧ i = .int .i64 k ∧ Hid (wr = w.drewN n) ∧ Hid (xs.take k = ys.take k)) (fun i _ => xs.length - (intOf i).toNat)
    case atStart => exact ⟨0, 0, Nat.zero_le _, rfl, rfl, rfl⟩
    case round =>
      obtain ⟨k, n, hk, rfl, hwr, HT⟩ := hrel
      have e := hwr.out
      subst e
      clear hwr hne
      by_cases hlt : k < xs.length
      · have hlt' : k < ys.length := by have := Hlen.out; omega
        obtain ⟨b, off, rfl, hb, hc⟩ := hr.byte hlt
        obtain ⟨b', off', rfl, hb', hc'⟩ := hr'.byte hlt'
        by_cases heq : xs[k] = ys[k]
        · have ht : ((xs[k].toNat : Int) != (ys[k].toNat : Int)) = false := by simp [heq]
          have HT2 : Hid (xs.take (k + 1) = ys.take (k + 1)) := take_eq_step xs ys k hlt hlt' HT.out heq
          clear heq
          have hl1 : (k : Int) < xs.length := by omega
          have hl2 : (k : Int) < ys.length := by omega
          go_wp2_with fail
          go_quiet (fail)
          go_wp2_with fail
          exact ⟨⟨k + 1, n + nq, by omega, by go_num, rfl, HT2⟩, by simp [intOf]; omega⟩
        · have ht : ((xs[k].toNat : Int) != (ys[k].toNat : Int)) = true := by
            rw [bne_iff_ne]; intro h; exact heq (UInt8.toNat_inj.1 (by omega))
          have hl1 : (k : Int) < xs.length := by omega
          have hl2 : (k : Int) < ys.length := by omega
          have hres : Hid ((xs == ys) = false) := by
            show (xs == ys) = false
            rw [beq_eq_false_iff_ne]
            rintro rfl
            exact heq rfl
          clear heq
          go_wp2_with fail
          go_quiet (fail)
          go_wp2_with fail
          go_ret
          exact ⟨by show _ = Ending.returned (.bool (xs == ys)); rw [hres.out]; rfl, n + nq, by rw [World.drewN_drewN]⟩
      · go_wp2_with fail
        go_ret
        have hres : (xs == ys) = true := by
          rw [beq_iff_eq]
          have h1 := HT.out
          have h2 := Hlen.out
          rw [List.take_of_length_le (by omega), List.take_of_length_le (by omega)] at h1
          exact h1
        exact ⟨by show _ = Ending.returned (.bool (xs == ys)); rw [hres]; rfl, n, rfl⟩
  · have hne : ((xs.length : Int) != (ys.length : Int)) = true := by rw [bne_iff_ne]; omega
    have hres : (xs == ys) = false := by
      rw [beq_eq_false_iff_ne]
      rintro rfl
      exact hlen rfl
    have Hres := Lib.hid hres
    clear hlen hres
    go_enter Try.func14, Try.ntmps14
    go_wp2_with fail
    go_ret
    exact ⟨by show _ = Ending.returned (.bool (xs == ys)); rw [Hres.out]; rfl, 0, rfl⟩
end

section
/- Contracts of the laws' Lend and Back, which lend bytes with marks behind them. -/
open Go.RowKit

/-- The cells of lent bytes when k of M marks are written. -/
def lentL (ys : List UInt8) (k M : Nat) : List Value := ys.map bv ++ (List.replicate k (bv 169) ++ List.replicate (M - k) (bv 0))
theorem length_lentL (ys : List UInt8) (k M : Nat) (h : k ≤ M) : (lentL ys k M).length = ys.length + M := by
  simp only [lentL, List.length_append, List.length_map, List.length_replicate]; omega
theorem set_lentL (ys : List UInt8) (k M : Nat) (h : k < M) : (lentL ys k M).set (ys.length + k) (bv 169) = lentL ys (k + 1) M := by
  obtain ⟨m, hm⟩ : ∃ m, M - k = m + 1 := ⟨M - k - 1, by omega⟩
  have hm' : M - (k + 1) = m := by omega
  unfold lentL
  rw [hm, hm', List.set_append_right _ _ (by simp), List.set_append_right _ _ (by simp)]
  simp only [List.length_map, List.length_replicate, Nat.add_sub_cancel_left, Nat.sub_self, List.replicate_succ, List.set_cons_zero]
  congr 1
  have e : List.replicate k (bv 169) ++ [bv 169] = bv 169 :: List.replicate k (bv 169) := by rw [← List.replicate_succ', List.replicate_succ]
  rw [← e, List.append_assoc]
  rfl
theorem splice_zeros (ys : List UInt8) (M : Nat) : splice (List.replicate (ys.length + M) (bv 0)) 0 (ys.map bv) = lentL ys 0 M := by
  unfold splice lentL
  simp

/-- What was lent: a new block, the bytes and M marks. -/
def LendPost (M : Nat) (w : World) (ys : List UInt8) (e : Ending) (w' : World) : Prop :=
  ∃ g, e = .returned (.slice (some ⟨g, 0, none⟩) ys.length (ys.length + M)) ∧ Blk w' g 5 (lentL ys M M).toArray ∧ w.heap.size ≤ g ∧ Below w.heap.size w w'

theorem byte_size : (Try.prog.info? 5).map (·.size) = some 1 := by kernel_rfl
set_option maxRecDepth 100000 in
theorem lend_any (p : Part) (w : World) (hp : Sl w p) (hl : p.ys.length ≤ 140737488355328) :
    Calls Try.prog 35 #[.slice p.A p.ys.length p.c] w (LendPost 5 w p.ys) := by
  obtain ⟨A, c, ys⟩ := p
  have hr : RV w A (ys.map bv) := hp.rv
  clear hp
  change ys.length ≤ _ at hl
  go_enter Try.func35, Try.ntmps35
  go_wp2_with (first
    | (refine wpList_make1 rfl (.tmp 7) (.tmp 7) rfl Try.underlying22 byte_info rfl .i64 .i64 _ (ys.length + 5) rfl rfl (by simp) (by omega) (by unfold maxLen; omega) ?_; intro w1 hblk hb1 hz1)
    | (refine wpList_copy1 rfl (.tmp 9) (.tmp 10) rfl Try.underlying22 byte_size (g := w.heap.size) (off := 0) (n := ys.length) rfl rfl hblk (hr.below hb1) (by simp) (by simp [Nat.min_def]) (by simp) (by simp) (map_bv_one _) ?_; intro w2 hblk2 ho2))
  have hblk2' := hblk2
  rw [show Value.int .u8 0 = bv 0 from rfl, splice_zeros] at hblk2'
  have hB2 : Below w.heap.size w w2 := hb1.trans (ho2.below hb1.size fun k hk => by omega)
  clear hblk hblk2 ho2
  go_loopw [4] (fun i wr => ∃ k : Nat, k ≤ 5 ∧ i = .int .i64 ((ys.length + k : Nat) : Int) ∧ Blk wr w.heap.size 5 (lentL ys k 5).toArray ∧ Below w.heap.size w wr) (fun i _ => ys.length + 5 - (intOf i).toNat)
  case atStart => exact ⟨0, by omega, by simp, hblk2', hB2⟩
  case round =>
    obtain ⟨k, hk, rfl, hblk, hB⟩ := hrel
    by_cases hlt : k < 5
    · obtain ⟨v, hc⟩ := hblk.some (i := ys.length + k) (by rw [length_lentL ys k 5 hk]; omega)
      have hf := hblk.frozen (ys.length + k)
      have hb2 := hblk.setL (ys.length + k) (bv 169)
      rw [set_lentL ys k 5 hlt] at hb2
      have Hb2 := Lib.hid hb2
      clear hb2
      go_wp2
      exact ⟨⟨k + 1, by omega, by go_num, Hb2.out, hB.setCell (Nat.le_refl _) _⟩, by simp [intOf]; omega⟩
    · obtain rfl : k = 5 := by omega
      go_wp2
      go_ret
      exact ⟨w.heap.size, rfl, hblk, Nat.le_refl _, hB⟩

/-- Lent bytes are as they were, and are written over: nothing beside their block turns. -/
theorem back_any (p : Part) (g : Nat) (w : World) (hp : Sl w p) (hl : p.ys.length ≤ 140737488355328) (hblk : Blk w g 5 (lentL p.ys 5 5).toArray) :
    Calls Try.prog 37 #[.slice (some ⟨g, 0, none⟩) p.ys.length (p.ys.length + 5), .slice p.A p.ys.length p.c] w fun e w' => e = .returned (.bool true) ∧ Only (fun k => k = g) w w' := by
  obtain ⟨A, c, ys⟩ := p
  have hlent : Sl w ⟨some ⟨g, 0, none⟩, ys.length + 5, ys⟩ := by
    refine ⟨?_, fun h => by cases h⟩
    have h1 : RV w (some ⟨g, 0, none⟩) (lentL ys 5 5) := by simpa using RV.of_blk hblk
    have h2 := h1.cut 0 ys.length
    simpa [lentL] using h2
  have hsame := same_any ⟨some ⟨g, 0, none⟩, ys.length + 5, ys⟩ ⟨A, c, ys⟩ w hlent hp (by dsimp only at hl ⊢; omega) (by dsimp only at hl ⊢; omega)
  dsimp only at hsame
  rw [show (ys == ys) = true from by simp] at hsame
  have Hs := Lib.hid hsame
  clear hsame hlent hp
  change ys.length ≤ _ at hl
  change Blk w g _ (lentL ys 5 5).toArray at hblk
  go_enter Try.func37, Try.ntmps37
  go_wp2_with fail
  refine Hs.out.mono ?_
  rintro e w1 ⟨rfl, n, rfl⟩
  have hblk1 : Blk (w.drewN n) g 5 (lentL ys 5 5).toArray := hblk
  go_wp2_with fail
  go_loop [5, 7] (fun r i => r = .bool true ∧ ∃ k : Nat, k ≤ 5 ∧ i = .int .i64 ((ys.length + k : Nat) : Int)) (fun _ i => ys.length + 5 - (intOf i).toNat)
  case atStart => exact ⟨rfl, 0, by omega, rfl⟩
  case round =>
    obtain ⟨rfl, k, hk, rfl⟩ := hrel
    by_cases hlt : k < 5
    · have hc : w.cell? ⟨g, ys.length + k, none⟩ = some (.int .u8 169) := by
        rw [hblk.at_]
        unfold lentL
        rw [List.getElem?_append_right (by simp), List.length_map, Nat.add_sub_cancel_left, List.getElem?_append_left (by simpa using hlt), List.getElem?_replicate, if_pos hlt]
        rfl
      go_wp2
      exact ⟨⟨rfl, k + 1, by omega, by go_num⟩, by simp [intOf]; omega⟩
    · obtain rfl : k = 5 := by omega
      go_wp2
      go_loopw [8] (fun i wr => ∃ (k : Nat) (cs : List Value), k ≤ ys.length + 5 ∧ i = .int .i64 k ∧ Hid (cs.length = ys.length + 5) ∧ Blk wr g 5 cs.toArray ∧ Only (fun k => k = g) w wr) (fun i _ => ys.length + 5 - (intOf i).toNat)
      case atStart => exact ⟨0, _, Nat.zero_le _, rfl, length_lentL ys 5 5 (Nat.le_refl _), hblk1, Only.of_fresh (below_drewN (Below.refl _ _) _)⟩
      case round =>
        obtain ⟨j, cs, hj, rfl, hcs, hb, hO⟩ := hrel
        by_cases hltj : j < ys.length + 5
        · obtain ⟨v, hc⟩ := hb.some (i := j) (by rw [hcs.out]; exact hltj)
          have hf := hb.frozen j
          have hbs := hb.setL j (.int .u8 94)
          go_wp2
          exact ⟨⟨j + 1, _, by omega, by go_num, by show List.length _ = _; rw [List.length_set]; exact hcs.out, hbs, hO.setCell (.inl rfl) _⟩, by simp [intOf]; omega⟩
        · go_wp2
          go_ret
          exact ⟨rfl, hO⟩
end

section
/- Contract of the law's put: one thing into the program's writer. -/
open Go.RowKit

/-- One thing to be put: its kind, its number, its bytes. -/
structure Item where
  kind : Int
  n : Int
  p : Part
abbrev Item.val (x : Item) : Value := .agg #[.int .i64 x.kind, .int .i64 x.n, .slice x.p.A x.p.ys.length x.p.c]
/-- The numbers fit, and the bytes are no more than memory holds. -/
structure Item.ok (x : Item) : Prop where
  k1 : -9223372036854775808 ≤ x.kind
  k2 : x.kind ≤ 9223372036854775807
  n1 : -9223372036854775808 ≤ x.n
  n2 : x.n ≤ 9223372036854775807
  len : x.p.ys.length ≤ 140737488355328
/-- What a Writer holds behind a thing. -/
def putItem (xs : List UInt8) (f : Int) (x : Item) : List UInt8 × Int :=
  if x.kind = 1 then numL xs f x.n
  else if x.kind = 2 then putL xs f (formL (foldN x.n))
  else if x.kind = 3 then putL xs f (boolL (x.n == 1))
  else if x.kind = 4 then putL xs f (formL x.p.ys.length ++ x.p.ys)
  else if x.kind = 5 then putL xs f (formL x.p.ys.length ++ x.p.ys)
  else if x.kind = 6 then putL xs f x.p.ys
  else (xs, f)

theorem Wr.refl_post {w : World} {base g : Nat} {A : Option Addr} {c : Nat} {xs : List UInt8} {f : Int} (h : Wr w base g A c xs f) : WrPost base g A w xs f w := ⟨A, c, h, fun _ hb => .inl hb, Only.refl _ _⟩
theorem WrPost.other {w w2 w3 w4 : World} {base g g1 : Nat} {A : Option Addr} {ys : List UInt8} {f : Int} (hb : Below w.heap.size w w2) (h : WrPost base g A w2 ys f w3) (hO : Only (fun k => k = g1) w3 w4) (h1 : w.heap.size ≤ g1) (h2 : g1 < w2.heap.size)
    (hn : ¬ wrS g A g1) : WrPost base g A w ys f w4 := by
  obtain ⟨A', c', hW, hA, hO1⟩ := h
  refine ⟨A', c', ⟨hW.blk.only hO fun e => hn (.inl e.symm), Own.only hW.own hO fun _ _ hA' e => ?_⟩, fun b hb' => (hA b hb').imp id fun h => Nat.le_trans hb.size h, ?_⟩
  · subst e
    rcases hA _ (by rw [hA']; rfl) with h | h
    · exact hn (.inr h)
    · dsimp only at h
      omega
  · exact ((Only.of_fresh hb).trans hO1).more hO fun k hk e => by omega
theorem lent_sl {w : World} {g M : Nat} {ys : List UInt8} (hblk : Blk w g 5 (lentL ys M M).toArray) : Sl w ⟨some ⟨g, 0, none⟩, ys.length + M, ys⟩ := by
  refine ⟨?_, fun h => by cases h⟩
  have h1 : RV w (some ⟨g, 0, none⟩) (lentL ys M M) := by simpa using RV.of_blk hblk
  have h2 := h1.cut 0 ys.length
  simpa [lentL] using h2


set_option maxRecDepth 100000 in
theorem put_num (base g : Nat) (A : Option Addr) (c : Nat) (xs : List UInt8) (f : Int) (x : Item) (w : World) (hW : Wr w base g A c xs f) (hx : xs.length ≤ 4194304) (hbase : base ≤ w.heap.size) (hp : Sl w x.p) (hok : x.ok)
    (hps : ∀ b o, 0 < x.p.ys.length → x.p.A = some ⟨b, o, none⟩ → ¬ wrS g A b) (hk : x.kind = 1) :
    Calls Try.prog 19 #[.pointer (some ⟨g, 0, none⟩), x.val] w fun e w' => e = .returned (.bool true) ∧ WrPost base g A w (putItem xs f x).1 (putItem xs f x).2 w' := by
  obtain ⟨kd, n, p⟩ := x
  change kd = 1 at hk
  subst hk
  have hok1 := hok.n1
  have hok2 := hok.n2
  have hlen := hok.len
  have hpsH := Lib.hid hps
  dsimp only at hok1 hok2 hlen
  have hres : putItem xs f ⟨1, n, p⟩ = numL xs f n := by
    unfold putItem
    simp
  rw [hres]
  clear hok hres hps
  have hp1 := fun o => hp.below ((Below.refl _ w).alloc (Nat.le_refl _) o)
  have hp1H := Lib.hid hp1
  have hslH := Lib.hid hp
  clear hp1 hp
  go_enter Try.func19, Try.ntmps19
  go_wp2_with fail
  refine (lend_any p _ (hp1H.out _) hlen).mono ?_
  rintro e w2 ⟨g1, rfl, hblk, hg1, hb2⟩
  obtain ⟨hc2, hf2⟩ := bcell hb2
  have hg1' : w.heap.size < g1 := by simp only [World.size_alloc] at hg1; omega
  have hg1lt := hblk.lt
  have hB : Below w.heap.size w w2 := ((Below.refl _ _).alloc (Nat.le_refl _) _).trans (hb2.mono (by simp))
  have hcell : w2.cell? ⟨w.heap.size, 2, none⟩ = some (.slice p.A p.ys.length p.c) := by rw [hc2 _ _ (by simp)]; simp
  have hbox : w.heap.size < w2.heap.size := by omega
  clear hb2 hg1
  have HB := Lib.hid hB
  have HW2 := Lib.hid (hW.below hB)
  have Hn1 := Lib.hid (hW.far (b := g1) (by omega))
  have Hn0 := Lib.hid (hW.far (b := w.heap.size) (Nat.le_refl _))
  have Hp2 := Lib.hid (hslH.out.below hB)
  have Hblk := Lib.hid hblk
  have hbase2 := Nat.le_trans hbase hB.size
  clear hB hblk hp1H hslH
  go_wp2_with fail
  refine (num_any base g A c xs f n w2 HW2.out (by omega) hx hbase2).mono ?_
  rintro e w3 ⟨rfl, hpost⟩
  obtain ⟨A3, c3, hW3, hA3, hO3⟩ := hpost
  have hcell3 : w3.cell? ⟨w.heap.size, 2, none⟩ = some (.slice p.A p.ys.length p.c) := (hO3.cell (p := ⟨w.heap.size, 2, none⟩) hbox Hn0.out).trans hcell
  have hbox3 : w.heap.size < w3.heap.size := Nat.lt_of_lt_of_le hbox hO3.size
  have Hblk3 := Lib.hid (Hblk.out.only hO3 Hn1.out)
  have Hp3 := Lib.hid (Hp2.out.only hO3 hpsH.out)
  have Hpost := Lib.hid (show WrPost base g A w2 _ _ w3 from ⟨A3, c3, hW3, hA3, hO3⟩)
  clear hW3 hA3 hO3 hc2 hf2 hcell
  go_wp2_with fail
  refine (back_any p g1 _ Hp3.out hlen Hblk3.out).mono ?_
  rintro e w4 ⟨rfl, hO4⟩
  have HO4 := Lib.hid hO4
  clear hO4
  go_wp2_with fail
  go_ret
  exact ⟨rfl, WrPost.other HB.out Hpost.out HO4.out (by omega) hg1lt Hn1.out⟩

set_option maxRecDepth 100000 in
theorem put_int (base g : Nat) (A : Option Addr) (c : Nat) (xs : List UInt8) (f : Int) (x : Item) (w : World) (hW : Wr w base g A c xs f) (hx : xs.length ≤ 4194304) (hbase : base ≤ w.heap.size) (hp : Sl w x.p) (hok : x.ok)
    (hps : ∀ b o, 0 < x.p.ys.length → x.p.A = some ⟨b, o, none⟩ → ¬ wrS g A b) (hk : x.kind = 2) :
    Calls Try.prog 19 #[.pointer (some ⟨g, 0, none⟩), x.val] w fun e w' => e = .returned (.bool true) ∧ WrPost base g A w (putItem xs f x).1 (putItem xs f x).2 w' := by
  obtain ⟨kd, n, p⟩ := x
  change kd = 2 at hk
  subst hk
  have hok1 := hok.n1
  have hok2 := hok.n2
  have hlen := hok.len
  have hpsH := Lib.hid hps
  dsimp only at hok1 hok2 hlen
  have hres : putItem xs f ⟨2, n, p⟩ = putL xs f (formL (foldN n)) := by
    unfold putItem
    simp
  rw [hres]
  clear hok hres hps
  have hp1 := fun o => hp.below ((Below.refl _ w).alloc (Nat.le_refl _) o)
  have hp1H := Lib.hid hp1
  have hslH := Lib.hid hp
  clear hp1 hp
  go_enter Try.func19, Try.ntmps19
  go_wp2_with fail
  refine (lend_any p _ (hp1H.out _) hlen).mono ?_
  rintro e w2 ⟨g1, rfl, hblk, hg1, hb2⟩
  obtain ⟨hc2, hf2⟩ := bcell hb2
  have hg1' : w.heap.size < g1 := by simp only [World.size_alloc] at hg1; omega
  have hg1lt := hblk.lt
  have hB : Below w.heap.size w w2 := ((Below.refl _ _).alloc (Nat.le_refl _) _).trans (hb2.mono (by simp))
  have hcell : w2.cell? ⟨w.heap.size, 2, none⟩ = some (.slice p.A p.ys.length p.c) := by rw [hc2 _ _ (by simp)]; simp
  have hbox : w.heap.size < w2.heap.size := by omega
  clear hb2 hg1
  have HB := Lib.hid hB
  have HW2 := Lib.hid (hW.below hB)
  have Hn1 := Lib.hid (hW.far (b := g1) (by omega))
  have Hn0 := Lib.hid (hW.far (b := w.heap.size) (Nat.le_refl _))
  have Hp2 := Lib.hid (hslH.out.below hB)
  have Hblk := Lib.hid hblk
  have hbase2 := Nat.le_trans hbase hB.size
  clear hB hblk hp1H hslH
  go_wp2_with fail
  refine (int_any base g A c xs f n w2 HW2.out (by omega) (by omega) hx hbase2).mono ?_
  rintro e w3 ⟨rfl, hpost⟩
  obtain ⟨A3, c3, hW3, hA3, hO3⟩ := hpost
  have hcell3 : w3.cell? ⟨w.heap.size, 2, none⟩ = some (.slice p.A p.ys.length p.c) := (hO3.cell (p := ⟨w.heap.size, 2, none⟩) hbox Hn0.out).trans hcell
  have hbox3 : w.heap.size < w3.heap.size := Nat.lt_of_lt_of_le hbox hO3.size
  have Hblk3 := Lib.hid (Hblk.out.only hO3 Hn1.out)
  have Hp3 := Lib.hid (Hp2.out.only hO3 hpsH.out)
  have Hpost := Lib.hid (show WrPost base g A w2 _ _ w3 from ⟨A3, c3, hW3, hA3, hO3⟩)
  clear hW3 hA3 hO3 hc2 hf2 hcell
  go_wp2_with fail
  refine (back_any p g1 _ Hp3.out hlen Hblk3.out).mono ?_
  rintro e w4 ⟨rfl, hO4⟩
  have HO4 := Lib.hid hO4
  clear hO4
  go_wp2_with fail
  go_ret
  exact ⟨rfl, WrPost.other HB.out Hpost.out HO4.out (by omega) hg1lt Hn1.out⟩

set_option maxRecDepth 100000 in
theorem put_bool (base g : Nat) (A : Option Addr) (c : Nat) (xs : List UInt8) (f : Int) (x : Item) (w : World) (hW : Wr w base g A c xs f) (hx : xs.length ≤ 4194304) (hbase : base ≤ w.heap.size) (hp : Sl w x.p) (hok : x.ok)
    (hps : ∀ b o, 0 < x.p.ys.length → x.p.A = some ⟨b, o, none⟩ → ¬ wrS g A b) (hk : x.kind = 3) :
    Calls Try.prog 19 #[.pointer (some ⟨g, 0, none⟩), x.val] w fun e w' => e = .returned (.bool true) ∧ WrPost base g A w (putItem xs f x).1 (putItem xs f x).2 w' := by
  obtain ⟨kd, n, p⟩ := x
  change kd = 3 at hk
  subst hk
  have hok1 := hok.n1
  have hok2 := hok.n2
  have hlen := hok.len
  have hpsH := Lib.hid hps
  dsimp only at hok1 hok2 hlen
  have hres : putItem xs f ⟨3, n, p⟩ = putL xs f (boolL (n == 1)) := by
    unfold putItem
    simp
  rw [hres]
  clear hok hres hps
  have hp1 := fun o => hp.below ((Below.refl _ w).alloc (Nat.le_refl _) o)
  have hp1H := Lib.hid hp1
  have hslH := Lib.hid hp
  clear hp1 hp
  go_enter Try.func19, Try.ntmps19
  go_wp2_with fail
  refine (lend_any p _ (hp1H.out _) hlen).mono ?_
  rintro e w2 ⟨g1, rfl, hblk, hg1, hb2⟩
  obtain ⟨hc2, hf2⟩ := bcell hb2
  have hg1' : w.heap.size < g1 := by simp only [World.size_alloc] at hg1; omega
  have hg1lt := hblk.lt
  have hB : Below w.heap.size w w2 := ((Below.refl _ _).alloc (Nat.le_refl _) _).trans (hb2.mono (by simp))
  have hcell : w2.cell? ⟨w.heap.size, 2, none⟩ = some (.slice p.A p.ys.length p.c) := by rw [hc2 _ _ (by simp)]; simp
  have hbox : w.heap.size < w2.heap.size := by omega
  clear hb2 hg1
  have HB := Lib.hid hB
  have HW2 := Lib.hid (hW.below hB)
  have Hn1 := Lib.hid (hW.far (b := g1) (by omega))
  have Hn0 := Lib.hid (hW.far (b := w.heap.size) (Nat.le_refl _))
  have Hp2 := Lib.hid (hslH.out.below hB)
  have Hblk := Lib.hid hblk
  have hbase2 := Nat.le_trans hbase hB.size
  clear hB hblk hp1H hslH
  go_wp2_with fail
  refine (bool_any base g A c xs f (n == 1) w2 HW2.out hx hbase2).mono ?_
  rintro e w3 ⟨rfl, hpost⟩
  obtain ⟨A3, c3, hW3, hA3, hO3⟩ := hpost
  have hcell3 : w3.cell? ⟨w.heap.size, 2, none⟩ = some (.slice p.A p.ys.length p.c) := (hO3.cell (p := ⟨w.heap.size, 2, none⟩) hbox Hn0.out).trans hcell
  have hbox3 : w.heap.size < w3.heap.size := Nat.lt_of_lt_of_le hbox hO3.size
  have Hblk3 := Lib.hid (Hblk.out.only hO3 Hn1.out)
  have Hp3 := Lib.hid (Hp2.out.only hO3 hpsH.out)
  have Hpost := Lib.hid (show WrPost base g A w2 _ _ w3 from ⟨A3, c3, hW3, hA3, hO3⟩)
  clear hW3 hA3 hO3 hc2 hf2 hcell
  go_wp2_with fail
  refine (back_any p g1 _ Hp3.out hlen Hblk3.out).mono ?_
  rintro e w4 ⟨rfl, hO4⟩
  have HO4 := Lib.hid hO4
  clear hO4
  go_wp2_with fail
  go_ret
  exact ⟨rfl, WrPost.other HB.out Hpost.out HO4.out (by omega) hg1lt Hn1.out⟩

set_option maxRecDepth 100000 in
theorem put_bytes (base g : Nat) (A : Option Addr) (c : Nat) (xs : List UInt8) (f : Int) (x : Item) (w : World) (hW : Wr w base g A c xs f) (hx : xs.length ≤ 4194304) (hbase : base ≤ w.heap.size) (hp : Sl w x.p) (hok : x.ok)
    (hps : ∀ b o, 0 < x.p.ys.length → x.p.A = some ⟨b, o, none⟩ → ¬ wrS g A b) (hk : x.kind = 4) :
    Calls Try.prog 19 #[.pointer (some ⟨g, 0, none⟩), x.val] w fun e w' => e = .returned (.bool true) ∧ WrPost base g A w (putItem xs f x).1 (putItem xs f x).2 w' := by
  obtain ⟨kd, n, p⟩ := x
  change kd = 4 at hk
  subst hk
  have hok1 := hok.n1
  have hok2 := hok.n2
  have hlen := hok.len
  have hpsH := Lib.hid hps
  dsimp only at hok1 hok2 hlen
  have hres : putItem xs f ⟨4, n, p⟩ = putL xs f (formL p.ys.length ++ p.ys) := by
    unfold putItem
    simp
  rw [hres]
  clear hok hres hps
  have hp1 := fun o => hp.below ((Below.refl _ w).alloc (Nat.le_refl _) o)
  have hp1H := Lib.hid hp1
  have hslH := Lib.hid hp
  clear hp1 hp
  go_enter Try.func19, Try.ntmps19
  go_wp2_with fail
  refine (lend_any p _ (hp1H.out _) hlen).mono ?_
  rintro e w2 ⟨g1, rfl, hblk, hg1, hb2⟩
  obtain ⟨hc2, hf2⟩ := bcell hb2
  have hg1' : w.heap.size < g1 := by simp only [World.size_alloc] at hg1; omega
  have hg1lt := hblk.lt
  have hB : Below w.heap.size w w2 := ((Below.refl _ _).alloc (Nat.le_refl _) _).trans (hb2.mono (by simp))
  have hcell : w2.cell? ⟨w.heap.size, 2, none⟩ = some (.slice p.A p.ys.length p.c) := by rw [hc2 _ _ (by simp)]; simp
  have hbox : w.heap.size < w2.heap.size := by omega
  clear hb2 hg1
  have HB := Lib.hid hB
  have HW2 := Lib.hid (hW.below hB)
  have Hn1 := Lib.hid (hW.far (b := g1) (by omega))
  have Hn0 := Lib.hid (hW.far (b := w.heap.size) (Nat.le_refl _))
  have Hp2 := Lib.hid (hslH.out.below hB)
  have Hblk := Lib.hid hblk
  have hbase2 := Nat.le_trans hbase hB.size
  clear hB hblk hp1H hslH
  go_wp2_with fail
  refine (bytes_any base g A c xs f ⟨some ⟨g1, 0, none⟩, p.ys.length + 5, p.ys⟩ w2 HW2.out (lent_sl Hblk.out) hx (by dsimp only; omega) (fun b o _ hA => by simp only [Option.some.injEq, Addr.mk.injEq] at hA; obtain ⟨rfl, _⟩ := hA; exact Hn1.out) hbase2).mono ?_
  rintro e w3 ⟨rfl, hpost⟩
  obtain ⟨A3, c3, hW3, hA3, hO3⟩ := hpost
  have hcell3 : w3.cell? ⟨w.heap.size, 2, none⟩ = some (.slice p.A p.ys.length p.c) := (hO3.cell (p := ⟨w.heap.size, 2, none⟩) hbox Hn0.out).trans hcell
  have hbox3 : w.heap.size < w3.heap.size := Nat.lt_of_lt_of_le hbox hO3.size
  have Hblk3 := Lib.hid (Hblk.out.only hO3 Hn1.out)
  have Hp3 := Lib.hid (Hp2.out.only hO3 hpsH.out)
  have Hpost := Lib.hid (show WrPost base g A w2 _ _ w3 from ⟨A3, c3, hW3, hA3, hO3⟩)
  clear hW3 hA3 hO3 hc2 hf2 hcell
  go_wp2_with fail
  refine (back_any p g1 _ Hp3.out hlen Hblk3.out).mono ?_
  rintro e w4 ⟨rfl, hO4⟩
  have HO4 := Lib.hid hO4
  clear hO4
  go_wp2_with fail
  go_ret
  exact ⟨rfl, WrPost.other HB.out Hpost.out HO4.out (by omega) hg1lt Hn1.out⟩

set_option maxRecDepth 100000 in
theorem put_text (base g : Nat) (A : Option Addr) (c : Nat) (xs : List UInt8) (f : Int) (x : Item) (w : World) (hW : Wr w base g A c xs f) (hx : xs.length ≤ 4194304) (hbase : base ≤ w.heap.size) (hp : Sl w x.p) (hok : x.ok)
    (hps : ∀ b o, 0 < x.p.ys.length → x.p.A = some ⟨b, o, none⟩ → ¬ wrS g A b) (hk : x.kind = 5) :
    Calls Try.prog 19 #[.pointer (some ⟨g, 0, none⟩), x.val] w fun e w' => e = .returned (.bool true) ∧ WrPost base g A w (putItem xs f x).1 (putItem xs f x).2 w' := by
  obtain ⟨kd, n, p⟩ := x
  change kd = 5 at hk
  subst hk
  have hok1 := hok.n1
  have hok2 := hok.n2
  have hlen := hok.len
  have hpsH := Lib.hid hps
  dsimp only at hok1 hok2 hlen
  have hres : putItem xs f ⟨5, n, p⟩ = putL xs f (formL p.ys.length ++ p.ys) := by
    unfold putItem
    simp
  rw [hres]
  clear hok hres hps
  have hp1 := fun o => hp.below ((Below.refl _ w).alloc (Nat.le_refl _) o)
  have hp1H := Lib.hid hp1
  have hslH := Lib.hid hp
  clear hp1 hp
  go_enter Try.func19, Try.ntmps19
  go_wp2_with fail
  refine (lend_any p _ (hp1H.out _) hlen).mono ?_
  rintro e w2 ⟨g1, rfl, hblk, hg1, hb2⟩
  obtain ⟨hc2, hf2⟩ := bcell hb2
  have hg1' : w.heap.size < g1 := by simp only [World.size_alloc] at hg1; omega
  have hg1lt := hblk.lt
  have hB : Below w.heap.size w w2 := ((Below.refl _ _).alloc (Nat.le_refl _) _).trans (hb2.mono (by simp))
  have hcell : w2.cell? ⟨w.heap.size, 2, none⟩ = some (.slice p.A p.ys.length p.c) := by rw [hc2 _ _ (by simp)]; simp
  have hbox : w.heap.size < w2.heap.size := by omega
  clear hb2 hg1
  have HB := Lib.hid hB
  have HW2 := Lib.hid (hW.below hB)
  have Hn1 := Lib.hid (hW.far (b := g1) (by omega))
  have Hn0 := Lib.hid (hW.far (b := w.heap.size) (Nat.le_refl _))
  have Hp2 := Lib.hid (hslH.out.below hB)
  have Hblk := Lib.hid hblk
  have hbase2 := Nat.le_trans hbase hB.size
  clear hB hblk hp1H hslH
  go_wp2_with (refine wpList_bytesStr rfl (.tmp 39) (A := p.A) (c := p.c) (ys := p.ys) rfl rfl Hp2.out.rv Try.underlying22 Try.underlying5 Try.underlying9 ?_)
  refine (text_any base g A c xs f ⟨p.ys.toArray⟩ w2 HW2.out hx (by show p.ys.toArray.size ≤ _; simp; omega) hbase2).mono ?_
  rintro e w3 ⟨rfl, hpost⟩
  obtain ⟨A3, c3, hW3, hA3, hO3⟩ := hpost
  have hcell3 : w3.cell? ⟨w.heap.size, 2, none⟩ = some (.slice p.A p.ys.length p.c) := (hO3.cell (p := ⟨w.heap.size, 2, none⟩) hbox Hn0.out).trans hcell
  have hbox3 : w.heap.size < w3.heap.size := Nat.lt_of_lt_of_le hbox hO3.size
  have Hblk3 := Lib.hid (Hblk.out.only hO3 Hn1.out)
  have Hp3 := Lib.hid (Hp2.out.only hO3 hpsH.out)
  have Hpost := Lib.hid (show WrPost base g A w2 _ _ w3 from ⟨A3, c3, hW3, hA3, hO3⟩)
  clear hW3 hA3 hO3 hc2 hf2 hcell
  go_wp2_with fail
  refine (back_any p g1 _ Hp3.out hlen Hblk3.out).mono ?_
  rintro e w4 ⟨rfl, hO4⟩
  have HO4 := Lib.hid hO4
  clear hO4
  go_wp2_with fail
  go_ret
  exact ⟨rfl, WrPost.other HB.out Hpost.out HO4.out (by omega) hg1lt Hn1.out⟩

set_option maxRecDepth 100000 in
theorem put_raw (base g : Nat) (A : Option Addr) (c : Nat) (xs : List UInt8) (f : Int) (x : Item) (w : World) (hW : Wr w base g A c xs f) (hx : xs.length ≤ 4194304) (hbase : base ≤ w.heap.size) (hp : Sl w x.p) (hok : x.ok)
    (hps : ∀ b o, 0 < x.p.ys.length → x.p.A = some ⟨b, o, none⟩ → ¬ wrS g A b) (hk : x.kind = 6) :
    Calls Try.prog 19 #[.pointer (some ⟨g, 0, none⟩), x.val] w fun e w' => e = .returned (.bool true) ∧ WrPost base g A w (putItem xs f x).1 (putItem xs f x).2 w' := by
  obtain ⟨kd, n, p⟩ := x
  change kd = 6 at hk
  subst hk
  have hok1 := hok.n1
  have hok2 := hok.n2
  have hlen := hok.len
  have hpsH := Lib.hid hps
  dsimp only at hok1 hok2 hlen
  have hres : putItem xs f ⟨6, n, p⟩ = putL xs f p.ys := by
    unfold putItem
    simp
  rw [hres]
  clear hok hres hps
  have hp1 := fun o => hp.below ((Below.refl _ w).alloc (Nat.le_refl _) o)
  have hp1H := Lib.hid hp1
  have hslH := Lib.hid hp
  clear hp1 hp
  go_enter Try.func19, Try.ntmps19
  go_wp2_with fail
  refine (lend_any p _ (hp1H.out _) hlen).mono ?_
  rintro e w2 ⟨g1, rfl, hblk, hg1, hb2⟩
  obtain ⟨hc2, hf2⟩ := bcell hb2
  have hg1' : w.heap.size < g1 := by simp only [World.size_alloc] at hg1; omega
  have hg1lt := hblk.lt
  have hB : Below w.heap.size w w2 := ((Below.refl _ _).alloc (Nat.le_refl _) _).trans (hb2.mono (by simp))
  have hcell : w2.cell? ⟨w.heap.size, 2, none⟩ = some (.slice p.A p.ys.length p.c) := by rw [hc2 _ _ (by simp)]; simp
  have hbox : w.heap.size < w2.heap.size := by omega
  clear hb2 hg1
  have HB := Lib.hid hB
  have HW2 := Lib.hid (hW.below hB)
  have Hn1 := Lib.hid (hW.far (b := g1) (by omega))
  have Hn0 := Lib.hid (hW.far (b := w.heap.size) (Nat.le_refl _))
  have Hp2 := Lib.hid (hslH.out.below hB)
  have Hblk := Lib.hid hblk
  have hbase2 := Nat.le_trans hbase hB.size
  clear hB hblk hp1H hslH
  go_wp2_with fail
  refine (raw_any base g A c xs f ⟨some ⟨g1, 0, none⟩, p.ys.length + 5, p.ys⟩ w2 HW2.out (lent_sl Hblk.out) hx (by dsimp only; omega) (fun b o _ hA => by simp only [Option.some.injEq, Addr.mk.injEq] at hA; obtain ⟨rfl, _⟩ := hA; exact Hn1.out) hbase2).mono ?_
  rintro e w3 ⟨rfl, hpost⟩
  obtain ⟨A3, c3, hW3, hA3, hO3⟩ := hpost
  have hcell3 : w3.cell? ⟨w.heap.size, 2, none⟩ = some (.slice p.A p.ys.length p.c) := (hO3.cell (p := ⟨w.heap.size, 2, none⟩) hbox Hn0.out).trans hcell
  have hbox3 : w.heap.size < w3.heap.size := Nat.lt_of_lt_of_le hbox hO3.size
  have Hblk3 := Lib.hid (Hblk.out.only hO3 Hn1.out)
  have Hp3 := Lib.hid (Hp2.out.only hO3 hpsH.out)
  have Hpost := Lib.hid (show WrPost base g A w2 _ _ w3 from ⟨A3, c3, hW3, hA3, hO3⟩)
  clear hW3 hA3 hO3 hc2 hf2 hcell
  go_wp2_with fail
  refine (back_any p g1 _ Hp3.out hlen Hblk3.out).mono ?_
  rintro e w4 ⟨rfl, hO4⟩
  have HO4 := Lib.hid hO4
  clear hO4
  go_wp2_with fail
  go_ret
  exact ⟨rfl, WrPost.other HB.out Hpost.out HO4.out (by omega) hg1lt Hn1.out⟩

set_option maxRecDepth 100000 in
theorem put_none (base g : Nat) (A : Option Addr) (c : Nat) (xs : List UInt8) (f : Int) (x : Item) (w : World) (hW : Wr w base g A c xs f) (_hx : xs.length ≤ 4194304) (hbase : base ≤ w.heap.size) (hp : Sl w x.p) (hok : x.ok)
    (hps : ∀ b o, 0 < x.p.ys.length → x.p.A = some ⟨b, o, none⟩ → ¬ wrS g A b) (hk : x.kind < 1 ∨ 6 < x.kind) :
    Calls Try.prog 19 #[.pointer (some ⟨g, 0, none⟩), x.val] w fun e w' => e = .returned (.bool true) ∧ WrPost base g A w (putItem xs f x).1 (putItem xs f x).2 w' := by
  obtain ⟨kd, n, p⟩ := x
  change kd < 1 ∨ 6 < kd at hk
  have hok1 := hok.n1
  have hok2 := hok.n2
  have hlen := hok.len
  have hpsH := Lib.hid hps
  dsimp only at hok1 hok2 hlen
  have hres : putItem xs f ⟨kd, n, p⟩ = (xs, f) := by
    unfold putItem
    simp only []; repeat rw [if_neg (by omega)]
  rw [hres]
  clear hok hres hps
  have k1 : (kd == 1) = false := by simp; omega
  have k2 : (kd == 2) = false := by simp; omega
  have k3 : (kd == 3) = false := by simp; omega
  have k4 : (kd == 4) = false := by simp; omega
  have k5 : (kd == 5) = false := by simp; omega
  have k6 : (kd == 6) = false := by simp; omega
  clear hk
  have hp1 := fun o => hp.below ((Below.refl _ w).alloc (Nat.le_refl _) o)
  have hp1H := Lib.hid hp1
  have hslH := Lib.hid hp
  clear hp1 hp
  go_enter Try.func19, Try.ntmps19
  go_wp2_with fail
  refine (lend_any p _ (hp1H.out _) hlen).mono ?_
  rintro e w2 ⟨g1, rfl, hblk, hg1, hb2⟩
  obtain ⟨hc2, hf2⟩ := bcell hb2
  have hg1' : w.heap.size < g1 := by simp only [World.size_alloc] at hg1; omega
  have hg1lt := hblk.lt
  have hB : Below w.heap.size w w2 := ((Below.refl _ _).alloc (Nat.le_refl _) _).trans (hb2.mono (by simp))
  have hcell : w2.cell? ⟨w.heap.size, 2, none⟩ = some (.slice p.A p.ys.length p.c) := by rw [hc2 _ _ (by simp)]; simp
  have hbox : w.heap.size < w2.heap.size := by omega
  clear hb2 hg1
  have HB := Lib.hid hB
  have HW2 := Lib.hid (hW.below hB)
  have Hn1 := Lib.hid (hW.far (b := g1) (by omega))
  have Hn0 := Lib.hid (hW.far (b := w.heap.size) (Nat.le_refl _))
  have Hp2 := Lib.hid (hslH.out.below hB)
  have Hblk := Lib.hid hblk
  have hbase2 := Nat.le_trans hbase hB.size
  clear hB hblk hp1H hslH
  have hbox3 := hbox
  have Hblk3 := Hblk
  have Hp3 := Hp2
  have Hpost := Lib.hid HW2.out.refl_post
  go_wp2_with fail
  refine (back_any p g1 _ Hp3.out hlen Hblk3.out).mono ?_
  rintro e w4 ⟨rfl, hO4⟩
  have HO4 := Lib.hid hO4
  clear hO4
  go_wp2_with fail
  go_ret
  exact ⟨rfl, WrPost.other HB.out Hpost.out HO4.out (by omega) hg1lt Hn1.out⟩

theorem put_any (base g : Nat) (A : Option Addr) (c : Nat) (xs : List UInt8) (f : Int) (x : Item) (w : World) (hW : Wr w base g A c xs f) (hx : xs.length ≤ 4194304) (hbase : base ≤ w.heap.size) (hp : Sl w x.p) (hok : x.ok)
    (hps : ∀ b o, 0 < x.p.ys.length → x.p.A = some ⟨b, o, none⟩ → ¬ wrS g A b) :
    Calls Try.prog 19 #[.pointer (some ⟨g, 0, none⟩), x.val] w fun e w' => e = .returned (.bool true) ∧ WrPost base g A w (putItem xs f x).1 (putItem xs f x).2 w' := by
  by_cases h1 : x.kind = 1
  · exact put_num base g A c xs f x w hW hx hbase hp hok hps h1
  by_cases h2 : x.kind = 2
  · exact put_int base g A c xs f x w hW hx hbase hp hok hps h2
  by_cases h3 : x.kind = 3
  · exact put_bool base g A c xs f x w hW hx hbase hp hok hps h3
  by_cases h4 : x.kind = 4
  · exact put_bytes base g A c xs f x w hW hx hbase hp hok hps h4
  by_cases h5 : x.kind = 5
  · exact put_text base g A c xs f x w hW hx hbase hp hok hps h5
  by_cases h6 : x.kind = 6
  · exact put_raw base g A c xs f x w hW hx hbase hp hok hps h6
  · exact put_none base g A c xs f x w hW hx hbase hp hok hps (by omega)
end

section
/- Contracts of the reference's Form and Fold. -/
open Go.RowKit

theorem cast_byte (u i : Nat) : (u : Int) / 2 ^ (8 * i) % 256 = ((u / 2 ^ (8 * i) % 256 : Nat) : Int) := by
  rw [Int.natCast_emod, Int.natCast_ediv, Int.natCast_pow]; rfl

theorem refForm_small (u : Nat) (w : World) (h : u < 248) : Calls Try.prog 81 #[.int .u64 u] w (FreshB w (formL u)) := by
  have h1 : (u : Int) ≤ 247 := by omega
  have e1 : formL u = [UInt8.ofNat u] := by unfold formL; rw [if_pos h]
  have e2 : (Value.int .u8 (u : Int)) = bv (UInt8.ofNat u) := by unfold bv; rw [toNat_ofNat8, Nat.mod_eq_of_lt (by omega)]
  rw [e1]
  have E2 := Lib.hid e2
  clear e1 e2 h
  go_enter Try.func81, Try.ntmps81
  go_wp2
  go_ret
  refine ⟨_, _, rfl, ?_, (Below.refl _ _).alloc (Nat.le_refl _) _⟩
  rw [E2.out]
  exact Own.lit w _ 1 1 #[bv (UInt8.ofNat u)] (Nat.le_refl _) (by decide) rfl

set_option maxHeartbeats 1000000 in
theorem refForm_big (u : Nat) (w : World) (h : ¬ u < 248) (hu : u < 18446744073709551616) : Calls Try.prog 81 #[.int .u64 u] w (FreshB w (formL u)) := by
  have h1 : ¬ (u : Int) ≤ 247 := by omega
  have Hu := Lib.hid (show u < 2 ^ 64 from hu)
  have H0 := Lib.hid h
  clear hu h
  go_enter Try.func81, Try.ntmps81
  go_wp2_with fail
  go_loopw [3, 4] (fun v i wr => ∃ (j : Nat) (out : List UInt8) (A : Option Addr) (c : Nat), j ≤ 8 ∧ i = .int .i64 ((j : Int) - 1) ∧ v = .slice A out.length c ∧ OwnB wr w.heap.size A out.length c out ∧ Below w.heap.size w wr ∧ FormR u j out) (fun _ i _ => (intOf i + 1).toNat)
  case atStart => exact ⟨8, [], none, 0, by omega, rfl, rfl, Own.nil _ _ _ _, Below.refl _ _, FormR.start u⟩
  case round =>
    obtain ⟨j, out, A, c, hj, rfl, rfl, hown, hB, HR⟩ := hrel
    have hlen := HR.len hj
    have hbase := hB.size
    by_cases h0 : j = 0
    · subst h0
      have hlen2 : out.length = byteCnt u 8 := by
        have e := congrArg List.length (HR.fin Hu.out H0.out)
        rw [length_beBytes] at e
        exact e
      have hform : formL u = [UInt8.ofNat (247 + out.length)] ++ out := by
        unfold formL
        rw [if_neg H0.out, hlen2, ← HR.fin Hu.out H0.out]
        rfl
      have hx : Value.int .u8 (247 + (out.length : Int)) = bv (UInt8.ofNat (247 + out.length)) := by
        unfold bv; rw [toNat_ofNat8, Nat.mod_eq_of_lt (by omega)]; congr 1
      have Hform := Lib.hid hform
      have Hx := Lib.hid hx
      have hown1 : ∀ W : World, OwnB (W.alloc (.cells #[bv (UInt8.ofNat (247 + out.length))] 5)) W.heap.size (some ⟨W.heap.size, 0, none⟩) 1 1 [UInt8.ofNat (247 + out.length)] := fun W => Own.lit W _ 1 1 #[bv (UInt8.ofNat (247 + out.length))] (Nat.le_refl _) (by decide) rfl
      have Hown1 := Lib.hid hown1
      clear hx hform hlen2 hown1
      go_wp2_with (at_builtin; refine wpList_app rfl (.tmp 37) (.tmp 38) eByte rfl (base := w.heap.size) (n := 1) (c := 1) (A := some ⟨wr.heap.size, 0, none⟩) (vs := [bv (UInt8.ofNat (247 + out.length))]) rfl (by rw [Hx.out]; exact (Hown1.out wr).mono hbase) (A' := A) (m := out.length) (c' := c) (us := out.map bv) rfl ((RV.of_own hown).alloc _) (by simp) (map_bv_one _) (by unfold maxLen; omega) (by omega) (by simp; omega) (Sl.of_own hown).nil ?_; intro A2 c2 w2 hown2 hg2 hat2)
      go_ret
      rw [Hform.out]
      refine ⟨A2, c2, ?_, OwnB.app (xs := [_]) hown2 rfl rfl, (hB.alloc hbase _).grown hg2 (by simp; omega) fun k hk => ?_⟩
      · rw [List.length_append]; rfl
      · simp at hk; omega
    · obtain ⟨i, rfl⟩ : ∃ i : Nat, j = i + 1 := ⟨j - 1, by omega⟩
      have e : (((i + 1 : Nat) : Int) - 1) = (i : Int) := by omega
      rw [e]
      clear e h0
      have hx : Value.int .u8 ((u : Int) / 2 ^ (8 * i) % 256) = bv (UInt8.ofNat (u / 2 ^ (8 * i))) := by
        unfold bv; rw [toNat_ofNat8]; congr 1
      have Hx := Lib.hid hx
      clear hx
      by_cases ho : out = []
      · subst ho
        by_cases hz : u / 2 ^ (8 * i) % 256 = 0
        · have hzb : ((u : Int) / 2 ^ (8 * i) % 256 != 0) = false := by
            rw [bne_eq_false_iff_eq, cast_byte, hz]; rfl
          have HR2 := HR.skip Hu.out hz
          clear hz
          go_wp2_with fail
          exact ⟨⟨i, [], A, c, by omega, rfl, rfl, hown, hB, HR2⟩, by simp [intOf]⟩
        · have hzb : ((u : Int) / 2 ^ (8 * i) % 256 != 0) = true := by
            rw [bne_iff_ne, cast_byte]; intro h; exact hz (Int.natCast_inj.1 h)
          have HR2 := HR.first hz
          clear hz
          go_wp2_with (at_builtin; refine wpList_app rfl (.tmp 28) (.tmp 30) eByte rfl (base := w.heap.size) (n := 0) (c := c) (A := A) (vs := []) rfl (hown.alloc _) (A' := some ⟨wr.heap.size, 0, none⟩) (m := 1) (c' := 1) (us := [bv (UInt8.ofNat (u / 2 ^ (8 * i)))]) rfl (by rw [← Hx.out]; exact RV.of_blk (Blk.new wr _ #[_])) rfl (map_bv_one [_]) (by decide) (by decide) (by simp; omega) (by simp) ?_; intro A2 c2 w2 hown2 hg2 hat2)
          have hB2 : Below w.heap.size w w2 := (hB.alloc hbase _).grown hg2 (by simp; omega) fun k hk => (hown.row k hk).1
          exact ⟨⟨i, [UInt8.ofNat (u / 2 ^ (8 * i))], A2, c2, by omega, rfl, rfl, hown2, hB2, HR2⟩, by simp [intOf]⟩
      · have hpos : (0 : Int) < out.length := by have := List.length_pos_iff.2 ho; omega
        have HR2 := HR.next ho
        go_wp2_with (at_builtin; refine wpList_app rfl (.tmp 28) (.tmp 30) eByte rfl (base := w.heap.size) (n := out.length) (c := c) (A := A) (vs := out.map bv) rfl (hown.alloc _) (A' := some ⟨wr.heap.size, 0, none⟩) (m := 1) (c' := 1) (us := [bv (UInt8.ofNat (u / 2 ^ (8 * i)))]) rfl (by rw [← Hx.out]; exact RV.of_blk (Blk.new wr _ #[_])) rfl (map_bv_one [_]) (by unfold maxLen; omega) (by omega) (by simp; omega) (by simp) ?_; intro A2 c2 w2 hown2 hg2 hat2)
        have hB2 : Below w.heap.size w w2 := (hB.alloc hbase _).grown hg2 (by simp; omega) fun k hk => (hown.row k hk).1
        exact ⟨⟨i, out ++ [UInt8.ofNat (u / 2 ^ (8 * i))], A2, c2, by omega, rfl, by rw [List.length_append]; exact rfl, OwnB.app (ys := [_]) hown2 rfl rfl, hB2, HR2⟩, by simp [intOf]⟩

theorem refForm_any (u : Nat) (w : World) (hu : u < 18446744073709551616) : Calls Try.prog 81 #[.int .u64 u] w (FreshB w (formL u)) := by
  by_cases h : u < 248
  · exact refForm_small u w h
  · exact refForm_big u w h hu

theorem fold_any (n : Int) (w : World) (h1 : -9223372036854775808 ≤ n) (h2 : n ≤ 9223372036854775807) :
    Calls Try.prog 82 #[.int .i64 n] w fun e w' => e = .returned (.int .u64 (foldN n)) ∧ w = w' := by
  by_cases h : n < 0
  · have e : (foldN n : Int) = 2 * -(n + 1) + 1 := by unfold foldN; rw [if_pos h]; omega
    rw [e]
    clear e
    go_enter Try.func82, Try.ntmps82
    go_wp2_with fail
    go_ret
    exact ⟨rfl, rfl⟩
  · have e : (foldN n : Int) = 2 * n := by unfold foldN; rw [if_neg h]; omega
    rw [e]
    clear e
    go_enter Try.func82, Try.ntmps82
    go_wp2_with fail
    go_ret
    exact ⟨rfl, rfl⟩
end

section
/- Contracts of the reference's Put and Done. -/
open Go.RowKit

/-- The bytes of one thing. -/
def itemL (x : Item) : List UInt8 :=
  if x.kind = 1 then formL x.n.toNat
  else if x.kind = 2 then formL (foldN x.n)
  else if x.kind = 3 then boolL (x.n == 1)
  else if x.kind = 6 then x.p.ys
  else formL x.p.ys.length ++ x.p.ys

theorem FreshB.mono {w w2 w' : World} {ys : List UInt8} {e : Ending} (hb : Below w.heap.size w w2) (h : FreshB w2 ys e w') : FreshB w ys e w' := by
  obtain ⟨A, c, he, ho, hb'⟩ := h
  exact ⟨A, c, he, ho.mono hb.size, hb.trans (hb'.mono hb.size)⟩

theorem refPut_any (x : Item) (w : World) (hp : Sl w x.p) (hok : x.ok) (hn : x.kind = 1 → 0 ≤ x.n) (hlen : x.p.ys.length ≤ 70368744177664) : Calls Try.prog 75 #[x.val] w (FreshB w (itemL x)) := by
  obtain ⟨kd, n, p⟩ := x
  have hok1 := hok.n1
  have hok2 := hok.n2
  dsimp only at hok1 hok2 hlen hn
  have hb0 : ∀ o, Below w.heap.size w (w.alloc o) := fun o => (Below.refl _ _).alloc (Nat.le_refl _) o
  have Hb0 := Lib.hid hb0
  have Hp := Lib.hid hp
  clear hok hb0 hp
  by_cases k1 : kd = 1
  · subst k1
    have e : itemL ⟨1, n, p⟩ = formL n.toNat := rfl
    rw [e]
    obtain ⟨m, rfl⟩ := Int.eq_ofNat_of_zero_le (hn rfl)
    rw [Int.toNat_natCast]
    have hm : m < 18446744073709551616 := by omega
    have Hm := Lib.hid hm
    clear e hn hm
    go_enter Try.func75, Try.ntmps75
    go_wp2_with fail
    refine (refForm_any m _ Hm.out).mono ?_
    rintro e w2 hpost
    obtain ⟨A1, c1, rfl, hown, hb⟩ := hpost
    go_wp2_with fail
    go_ret
    exact FreshB.mono (Hb0.out _) ⟨A1, c1, rfl, hown, hb⟩
  by_cases k2 : kd = 2
  · subst k2
    have e : itemL ⟨2, n, p⟩ = formL (foldN n) := rfl
    rw [e]
    have hm := foldN_lt n hok1 (by omega)
    have Hm := Lib.hid hm
    clear e hn hm k1
    go_enter Try.func75, Try.ntmps75
    go_wp2_with fail
    refine (fold_any n _ hok1 hok2).mono ?_
    rintro e w1 ⟨rfl, rfl⟩
    go_wp2_with fail
    refine (refForm_any (foldN n) _ Hm.out).mono ?_
    rintro e w2 hpost
    obtain ⟨A1, c1, rfl, hown, hb⟩ := hpost
    go_wp2_with fail
    go_ret
    exact FreshB.mono (Hb0.out _) ⟨A1, c1, rfl, hown, hb⟩
  by_cases k3 : kd = 3
  · subst k3
    have e : itemL ⟨3, n, p⟩ = boolL (n == 1) := rfl
    rw [e]
    clear e hn k1 k2
    have hB : ∀ o1 o2, Below w.heap.size w ((w.alloc o1).alloc o2) := fun o1 o2 => ((Below.refl _ _).alloc (Nat.le_refl _) o1).alloc (by simp) o2
    have hO : ∀ (o1 : Obj) (u : UInt8), OwnB ((w.alloc o1).alloc (.cells #[bv u] 5)) w.heap.size (some ⟨w.heap.size + 1, 0, none⟩) 1 1 [u] := fun o1 u => by
      have h := Own.lit (w.alloc o1) (base := w.heap.size) 5 1 1 #[bv u] (by simp) (by decide) rfl
      rwa [World.size_alloc] at h
    have HB := Lib.hid hB
    have HO := Lib.hid hO
    clear hB hO
    by_cases h1 : n = 1
    · subst h1
      go_enter Try.func75, Try.ntmps75
      go_wp2_with fail
      go_ret
      exact ⟨_, _, rfl, HO.out _ 1, HB.out _ _⟩
    · have h1b : (n == 1) = false := by simp; omega
      have e : boolL (n == 1) = [0] := by rw [h1b]; rfl
      rw [e]
      clear e h1
      go_enter Try.func75, Try.ntmps75
      go_wp2_with fail
      go_ret
      exact ⟨_, _, rfl, HO.out _ 0, HB.out _ _⟩
  by_cases k6 : kd = 6
  · subst k6
    have e : itemL ⟨6, n, p⟩ = p.ys := rfl
    rw [e]
    clear e hn k1 k2 k3
    have hrv := fun o => (Hp.out.below (Hb0.out o)).rv
    have Hrv := Lib.hid hrv
    have Hnil := Lib.hid Hp.out.nil
    clear hrv
    go_enter Try.func75, Try.ntmps75
    go_wp2_with (at_builtin; refine wpList_app rfl (.tmp 28) (.tmp 30) eByte rfl (base := w.heap.size) (n := 0) (c := 0) (A := none) (vs := []) rfl (Own.nil _ _ _ _) (A' := p.A) (m := p.ys.length) (c' := p.c) (us := p.ys.map bv) rfl (Hrv.out _) (by simp) (map_bv_one _) (by unfold maxLen; omega) (by omega) (by simp) Hnil.out ?_; intro A2 c2 w2 hown2 hg2 hat2)
    go_ret
    simp only [Nat.zero_add, List.nil_append] at hown2
    refine ⟨A2, c2, rfl, hown2, (Hb0.out _).grown hg2 (by simp) fun k hk => by cases hk⟩
  · have e : itemL ⟨kd, n, p⟩ = formL p.ys.length ++ p.ys := by
      unfold itemL
      rw [if_neg k1, if_neg k2, if_neg k3, if_neg k6]
    have j1 : (kd == 1) = false := by simp; omega
    have j2 : (kd == 2) = false := by simp; omega
    have j3 : (kd == 3) = false := by simp; omega
    have j6 : (kd == 6) = false := by simp; omega
    have He := Lib.hid e
    have hfl := formL_le p.ys.length
    clear e hn k1 k2 k3 k6
    go_enter Try.func75, Try.ntmps75
    go_wp2_with fail
    refine (refForm_any p.ys.length _ (by omega)).mono ?_
    rintro e w2 hpost
    obtain ⟨A1, c1, rfl, hown, hb⟩ := hpost
    obtain ⟨hc2, hf2⟩ := bcell hb
    have hz2 : w.heap.size < w2.heap.size := by have := hb.size; simp only [World.size_alloc] at this; omega
    have hB2 := (Hb0.out _).trans (hb.mono (by simp))
    have hcell : w2.cell? ⟨w.heap.size, 2, none⟩ = some (.slice p.A p.ys.length p.c) := by rw [hc2 _ _ (by simp)]; simp
    have Hrv := Lib.hid (Hp.out.below hB2).rv
    have Hnil := Lib.hid Hp.out.nil
    have hown' := hown.mono (base' := w.heap.size) (by simp)
    clear hc2 hf2 hb hown
    go_wp2_with (at_builtin; refine wpList_app rfl (.tmp 37) (.tmp 39) eByte rfl (base := w.heap.size) (n := (formL p.ys.length).length) (c := c1) (A := A1) (vs := (formL p.ys.length).map bv) rfl hown' (A' := p.A) (m := p.ys.length) (c' := p.c) (us := p.ys.map bv) rfl Hrv.out (by simp) (map_bv_one _) (by unfold maxLen; omega) (by omega) hB2.size Hnil.out ?_; intro A2 c2 w3 hown3 hg3 hat3)
    go_ret
    rw [He.out]
    refine ⟨A2, c2, by rw [List.length_append]; rfl, OwnB.app hown3 rfl rfl, hB2.grown hg3 hB2.size fun k hk => (hown'.row k hk).1⟩
end

section
/- A slice of things as a list; the contract of the reference's Done. -/
open Go.RowKit

theorem flatMap_get {α β : Type} (f : α → List β) (n : Nat) (hf : ∀ x, (f x).length = n) (l : List α) : ∀ (i j : Nat) (x : α), l[i]? = some x → j < n → (l.flatMap f)[i * n + j]? = (f x)[j]? := by
  induction l with
  | nil => intro i j x h; simp at h
  | cons a l ih =>
    intro i j x h hj
    cases i with
    | zero =>
      simp only [List.getElem?_cons_zero, Option.some.injEq] at h
      subst h
      rw [List.flatMap_cons, Nat.zero_mul, Nat.zero_add, List.getElem?_append_left (by rw [hf]; exact hj)]
    | succ i =>
      simp only [List.getElem?_cons_succ] at h
      rw [List.flatMap_cons, List.getElem?_append_right (by rw [hf, Nat.succ_mul]; omega), hf, ← ih i j x h hj]
      congr 1
      rw [Nat.succ_mul]
      omega
theorem length_flatMap_const {α β : Type} (f : α → List β) (n : Nat) (hf : ∀ x, (f x).length = n) (l : List α) : (l.flatMap f).length = l.length * n := by
  induction l with
  | nil => simp
  | cons a l ih => rw [List.flatMap_cons, List.length_append, ih, hf, List.length_cons, Nat.succ_mul, Nat.add_comm]

def itemCells (x : Item) : List Value := [.int .i64 x.kind, .int .i64 x.n, .slice x.p.A x.p.ys.length x.p.c]
/-- The place A reads as these things. -/
structure Items (w : World) (A : Option Addr) (its : List Item) : Prop where
  rv : RV w A (its.flatMap itemCells)
  sl : ∀ x ∈ its, Sl w x.p
  ok : ∀ x ∈ its, x.ok
theorem Items.below {w w' : World} {A : Option Addr} {its : List Item} (h : Items w A its) (hb : Below w.heap.size w w') : Items w' A its := ⟨h.rv.below hb, fun x hx => (h.sl x hx).below hb, h.ok⟩
theorem Items.at_ {w : World} {A : Option Addr} {its : List Item} (h : Items w A its) {k : Nat} (hk : k < its.length) :
    ∃ b off, A = some ⟨b, off, none⟩ ∧ b < w.heap.size ∧ w.cell? ⟨b, off + k * 3, none⟩ = some (.int .i64 its[k].kind) ∧ w.cell? ⟨b, off + k * 3 + 1, none⟩ = some (.int .i64 its[k].n) ∧
      w.cell? ⟨b, off + k * 3 + 2, none⟩ = some (.slice its[k].p.A its[k].p.ys.length its[k].p.c) := by
  have hl : (its.flatMap itemCells).length = its.length * 3 := length_flatMap_const _ 3 (fun _ => rfl) _
  obtain ⟨b, off, hA, hb, hc⟩ := h.rv.at_ (by rw [hl]; omega)
  have hg := fun j hj => flatMap_get itemCells 3 (fun _ => rfl) its k j its[k] (List.getElem?_eq_getElem hk) hj
  refine ⟨b, off, hA, hb, hc _ _ (hg 0 (by omega)), ?_, ?_⟩
  · have := hc _ _ (hg 1 (by omega))
    rwa [← Nat.add_assoc] at this
  · have := hc _ _ (hg 2 (by omega))
    rwa [← Nat.add_assoc] at this

/-- What the document tells of all that was put. -/
def refFrom : List UInt8 → List Item → List UInt8 × Int
  | out, [] => (out, 0)
  | out, x :: l => if x.kind = 1 ∧ x.n < 0 then ([], 1) else if 4194304 < out.length + (itemL x).length then ([], 2) else refFrom (out ++ itemL x) l

/-- The call handed back new bytes and a number. -/
def FreshB2 (w : World) (r : List UInt8 × Int) (e : Ending) (w' : World) : Prop :=
  ∃ A c, e = .returned (.tuple #[.slice A r.1.length c, .int .i64 r.2]) ∧ OwnB w' w.heap.size A r.1.length c r.1 ∧ Below w.heap.size w w'

theorem itemL_le (x : Item) : (itemL x).length ≤ 9 + x.p.ys.length := by
  unfold itemL
  split
  · have := formL_le x.n.toNat; omega
  split
  · have := formL_le (foldN x.n); omega
  split
  · show 1 ≤ _; omega
  split
  · omega
  · have := formL_le x.p.ys.length
    rw [List.length_append]; omega

theorem refDone_any (A : Option Addr) (c : Nat) (its : List Item) (w : World) (hI : Items w A its) (hl : its.length ≤ 9223372036854775807) (hys : ∀ x ∈ its, x.p.ys.length ≤ 70368744177664) :
    Calls Try.prog 52 #[.slice A its.length c] w (FreshB2 w (refFrom [] its)) := by
  have Hys := Lib.hid hys
  clear hys
  go_enter Try.func52, Try.ntmps52
  go_wp2_with fail
  go_loopw [4, 5] (fun v i wr => ∃ (k : Nat) (out : List UInt8) (A' : Option Addr) (c' : Nat), k ≤ its.length ∧ i = .int .i64 k ∧ v = .slice A' out.length c' ∧ OwnB wr w.heap.size A' out.length c' out ∧ Below w.heap.size w wr ∧ out.length ≤ 4194304 ∧ Hid (refFrom [] its = refFrom out (its.drop k))) (fun _ i _ => its.length - (intOf i).toNat)
  case atStart => exact ⟨0, [], none, 0, Nat.zero_le _, rfl, rfl, Own.nil _ _ _ _, Below.refl _ _, by simp, rfl⟩
  case round =>
    obtain ⟨k, out, A', c', hk, rfl, rfl, hown, hB, hlen, HR⟩ := hrel
    have hsz := hB.size
    by_cases hlt : k < its.length
    · have hIr := hI.below hB
      obtain ⟨b, off, rfl, hb, h0, h1, h2⟩ := hIr.at_ hlt
      have hmem : its[k] ∈ its := List.getElem_mem hlt
      have hlt' : (k : Int) < its.length := by omega
      have hstep : refFrom [] its = refFrom out (its[k] :: its.drop (k + 1)) := by rw [HR.out, List.drop_eq_getElem_cons hlt]
      by_cases hneg : its[k].kind = 1 ∧ its[k].n < 0
      · have hres : Hid (refFrom [] its = ([], 1)) := by
          show _ = _
          rw [hstep]
          simp only [refFrom, if_pos hneg]
        obtain ⟨g1, g2⟩ := hneg
        have g1' : (its[k].kind == 1) = true := by rw [beq_iff_eq]; exact g1
        clear g1 hstep
        go_wp2_with fail
        go_ret2
        rw [hres.out]
        exact ⟨none, 0, rfl, Own.nil _ _ _ _, hB⟩
      · have hput := refPut_any its[k] wr (hIr.sl _ hmem) (hIr.ok _ hmem) (fun h => by
          rcases Int.lt_or_le its[k].n 0 with h' | h'
          · exact absurd ⟨h, h'⟩ hneg
          · exact h') (Hys.out _ hmem)
        have Hput := Lib.hid hput
        have hstep2 : refFrom [] its = if 4194304 < out.length + (itemL its[k]).length then ([], 2) else refFrom (out ++ itemL its[k]) (its.drop (k + 1)) := by
          rw [hstep]
          simp only [refFrom, if_neg hneg]
        have Hstep := Lib.hid hstep2
        have hcase : ((its[k].kind == 1) = true ∧ 0 ≤ its[k].n) ∨ (its[k].kind == 1) = false := by
          by_cases h1 : its[k].kind = 1
          · refine .inl ⟨by rw [beq_iff_eq]; exact h1, ?_⟩
            rcases Int.lt_or_le its[k].n 0 with h' | h'
            · exact absurd ⟨h1, h'⟩ hneg
            · exact h'
          · exact .inr (by rw [beq_eq_false_iff_ne]; exact h1)
        clear hput hstep hstep2 hneg
        rcases hcase with ⟨g1, g2⟩ | g1
        all_goals
          go_wp2_with fail
          refine Hput.out.mono ?_
          rintro e w2 hpost
          obtain ⟨A2, c2, rfl, hown2, hb2⟩ := hpost
          have hbs : (itemL its[k]).length ≤ 70368744177700 := by
            have := itemL_le its[k]
            have := Hys.out _ hmem
            omega
          generalize itemL its[k] = bs at *
          have hB2 := hB.trans (hb2.mono hsz)
          have hownO := Own.below hown hb2 (Nat.le_refl _)
          have hs2 := Sl.of_own hown2
          have Hnil := Lib.hid hs2.nil
          have hrv2 := hs2.rv
          clear hb2 hs2
          by_cases hov : 4194304 < out.length + bs.length
          · have hov' : (4194304 : Int) < out.length + bs.length := by omega
            have hres : Hid (refFrom [] its = ([], 2)) := by
              show _ = _
              rw [Hstep.out, if_pos hov]
            clear hov
            go_wp2_with fail
            go_ret2
            rw [hres.out]
            exact ⟨none, 0, rfl, Own.nil _ _ _ _, hB2⟩
          · have hov' : ¬ (4194304 : Int) < out.length + bs.length := by omega
            have hres : Hid (refFrom [] its = refFrom (out ++ bs) (its.drop (k + 1))) := by
              show _ = _
              rw [Hstep.out, if_neg hov]
            go_wp2_with (at_builtin; refine wpList_app rfl (.tmp 38) (.tmp 39) eByte rfl (base := w.heap.size) (n := out.length) (c := c') (A := A') (vs := out.map bv) rfl hownO (A' := A2) (m := bs.length) (c' := c2) (us := bs.map bv) rfl hrv2 (by simp) (map_bv_one _) (by unfold maxLen; omega) (by omega) hB2.size Hnil.out ?_; intro A3 c3 w3 hown3 hg3 hat3)
            have hB3 := hB2.grown hg3 hB2.size fun k hk => (hownO.row k hk).1
            exact ⟨⟨k + 1, out ++ bs, A3, c3, by omega, by go_num, by rw [List.length_append], OwnB.app hown3 rfl rfl, hB3, by rw [List.length_append]; omega, hres⟩, by simp [intOf]; omega⟩
    · go_wp2_with fail
      go_ret2
      have hres : refFrom [] its = (out, 0) := by rw [HR.out, List.drop_eq_nil_of_le (by omega)]; rfl
      rw [hres]
      exact ⟨A', c', rfl, hown, hB⟩
end

section
/- The writer's way and the document's way to the bytes of a row of things: plain lists. -/

def isB (x : Item) : Bool := decide (1 ≤ x.kind) && decide (x.kind ≤ 6) && decide (x.p.ys.length ≤ 65536)
/-- What a Writer holds behind a row of things. -/
def putAll (s : List UInt8 × Int) (l : List Item) : List UInt8 × Int := l.foldl (fun s x => putItem s.1 s.2 x) s

theorem putL_bad (xs : List UInt8) (f : Int) (ys : List UInt8) (hf : f ≠ 0) : putL xs f ys = (xs, f) := by unfold putL; rw [if_neg hf]
theorem putItem_bad (xs : List UInt8) (f : Int) (x : Item) (hf : f ≠ 0) : putItem xs f x = (xs, f) := by
  unfold putItem
  repeat' split
  all_goals first | exact putL_bad _ _ _ hf | rfl | skip
  unfold numL
  split
  · rfl
  · exact putL_bad _ _ _ hf
theorem putAll_bad (l : List Item) (xs : List UInt8) (f : Int) (hf : f ≠ 0) : putAll (xs, f) l = (xs, f) := by
  induction l with
  | nil => rfl
  | cons x l ih => unfold putAll; rw [List.foldl_cons]; dsimp only; rw [putItem_bad _ _ _ hf]; exact ih
theorem putItem_ok (xs : List UInt8) (x : Item) (h1 : 1 ≤ x.kind) (h2 : x.kind ≤ 6) (hn : ¬ (x.kind = 1 ∧ x.n < 0)) : putItem xs 0 x = putL xs 0 (itemL x) := by
  unfold putItem itemL
  by_cases k1 : x.kind = 1
  · rw [if_pos k1, if_pos k1]
    unfold numL
    rw [if_neg (fun h => hn ⟨k1, h⟩)]
  rw [if_neg k1, if_neg k1]
  by_cases k2 : x.kind = 2
  · rw [if_pos k2, if_pos k2]
  rw [if_neg k2, if_neg k2]
  by_cases k3 : x.kind = 3
  · rw [if_pos k3, if_pos k3]
  rw [if_neg k3, if_neg k3]
  by_cases k4 : x.kind = 4
  · rw [if_pos k4, if_neg (by omega)]
  rw [if_neg k4]
  by_cases k5 : x.kind = 5
  · rw [if_pos k5, if_neg (by omega)]
  rw [if_neg k5, if_pos (by omega), if_pos (by omega)]
theorem putItem_neg (xs : List UInt8) (x : Item) (hn : x.kind = 1 ∧ x.n < 0) : putItem xs 0 x = (xs, 1) := by
  unfold putItem numL
  rw [if_pos hn.1, if_pos hn.2, if_pos rfl]

theorem ref_put (l : List Item) : ∀ xs : List UInt8, (∀ x ∈ l, 1 ≤ x.kind ∧ x.kind ≤ 6) → refFrom xs l = (doneL (putAll (xs, 0) l).1 (putAll (xs, 0) l).2, (putAll (xs, 0) l).2) := by
  induction l with
  | nil => intro xs _; rfl
  | cons x l ih =>
    intro xs hk
    obtain ⟨h1, h2⟩ := hk x (List.mem_cons_self ..)
    have e : putAll (xs, 0) (x :: l) = putAll (putItem xs 0 x) l := rfl
    rw [e]
    unfold refFrom
    by_cases hn : x.kind = 1 ∧ x.n < 0
    · rw [if_pos hn, putItem_neg xs x hn, putAll_bad l xs 1 (by decide)]
      rfl
    · rw [if_neg hn, putItem_ok xs x h1 h2 hn]
      unfold putL
      rw [if_pos rfl]
      by_cases ho : 4194304 < xs.length + (itemL x).length
      · rw [if_pos ho, if_neg (by omega), putAll_bad l xs 2 (by decide)]
        rfl
      · rw [if_neg ho, if_pos (by omega)]
        exact ih _ fun y hy => hk y (List.mem_cons_of_mem _ hy)
theorem putItem_le (xs : List UInt8) (f : Int) (x : Item) (h : xs.length ≤ 4194304) : (putItem xs f x).1.length ≤ 4194304 := by
  unfold putItem
  repeat' split
  all_goals first | exact putL_le _ _ _ h | exact h | skip
  unfold numL
  split
  · exact h
  · exact putL_le _ _ _ h
theorem putAll_snoc (s : List UInt8 × Int) (l : List Item) (x : Item) : putAll s (l ++ [x]) = putItem (putAll s l).1 (putAll s l).2 x := by unfold putAll; rw [List.foldl_append]; rfl
end
end Go.Proofs.Ytefaapcekbgjoaa
