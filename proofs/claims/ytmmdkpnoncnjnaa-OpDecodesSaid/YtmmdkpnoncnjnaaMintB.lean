/- Contract of mint's (*Writer).add. -/
import Derived.Test.YtmmdkpnoncnjnaaMintA
namespace Go.Proofs.Ytmmdkpnoncnjnaa
open Go.RowKit

/-- One of the lists that add takes: its place, its capacity, its bytes. -/
structure Part where
  A : Option Addr
  c : Nat
  ys : List UInt8
/-- Block lb holds the parts' slices one behind the other, and each reads as its bytes. -/
structure PartsAt (w : World) (lb : Nat) (ps : List Part) : Prop where
  lt : lb < w.heap.size
  cell : ∀ k (h : k < ps.length), w.cell? ⟨lb, k, none⟩ = some (.slice ps[k].A ps[k].ys.length ps[k].c)
  rv : ∀ k (h : k < ps.length), RV w ps[k].A (ps[k].ys.map bv)
  nil : ∀ k (h : k < ps.length), ps[k].A = none → ps[k].ys.length = 0 ∧ ps[k].c = 0
def total (ps : List Part) : Nat := (ps.map fun p => p.ys.length).sum
def cat (ps : List Part) : List UInt8 := (ps.map fun p => p.ys).flatten
theorem total_take (ps : List Part) (k : Nat) (h : k < ps.length) : total (ps.take (k + 1)) = total (ps.take k) + ps[k].ys.length := by
  unfold total
  rw [List.take_succ_eq_append_getElem h, List.map_append, List.sum_append]
  rfl
theorem total_le (ps : List Part) (k : Nat) : total (ps.take k) ≤ total ps := by
  unfold total
  conv => rhs; rw [← List.take_append_drop k ps]
  rw [List.map_append, List.sum_append]
  exact Nat.le_add_right _ _
theorem cat_take (ps : List Part) (k : Nat) (h : k < ps.length) : cat (ps.take (k + 1)) = cat (ps.take k) ++ ps[k].ys := by
  unfold cat
  rw [List.take_succ_eq_append_getElem h, List.map_append, List.flatten_append]
  simp
theorem length_cat (ps : List Part) : (cat ps).length = total ps := by
  unfold cat total
  rw [List.length_flatten, List.map_map]
  rfl
theorem PartsAt.only {S : Nat → Prop} {w w' : World} {lb : Nat} {ps : List Part} (h : PartsAt w lb ps) (ho : Only S w w') (h1 : ¬ S lb) (h2 : ∀ k (hk : k < ps.length) b o, 0 < ps[k].ys.length → ps[k].A = some ⟨b, o, none⟩ → ¬ S b) : PartsAt w' lb ps :=
  ⟨Nat.lt_of_lt_of_le h.lt ho.size, fun k hk => (ho.cell (p := ⟨lb, k, none⟩) h.lt h1).trans (h.cell k hk), fun k hk => (h.rv k hk).only ho fun h0 b o hA => h2 k hk b o (List.length_pos_iff.2 fun e => h0 (by rw [e]; rfl)) hA, h.nil⟩

/-- Block g is a Writer that holds xs and the fault f; its bytes lie at A. -/
structure Wr (w : World) (base g : Nat) (A : Option Addr) (c : Nat) (xs : List UInt8) (f : Int) : Prop where
  blk : Blk w g 94 #[.slice A xs.length c, .int .i64 f]
  own : OwnB w base A xs.length c xs
theorem Wr.c0 {w : World} {base g : Nat} {A : Option Addr} {c : Nat} {xs : List UInt8} {f : Int} (h : Wr w base g A c xs f) : w.cell? ⟨g, 0, none⟩ = some (.slice A xs.length c) := by rw [h.blk.cell]; rfl
theorem Wr.c1 {w : World} {base g : Nat} {A : Option Addr} {c : Nat} {xs : List UInt8} {f : Int} (h : Wr w base g A c xs f) : w.cell? ⟨g, 1, none⟩ = some (.int .i64 f) := by rw [h.blk.cell]; rfl
/-- The blocks of a Writer. -/
def wrS (g : Nat) (A : Option Addr) (k : Nat) : Prop := k = g ∨ A.map (·.block) = some k

theorem add_bad (base g lb : Nat) (A : Option Addr) (c : Nat) (xs : List UInt8) (f : Int) (ps : List Part) (w : World) (hW : Wr w base g A c xs f) (hP : PartsAt w lb ps)
    (hf : f ≠ 0) (hx : xs.length ≤ 4194304) (ht : total ps ≤ 1000000000000000) (hn : ps.length ≤ 1000) :
    Calls Try.prog 61 #[.pointer (some ⟨g, 0, none⟩), .slice (some ⟨lb, 0, none⟩) ps.length ps.length] w fun e w' => e = .returned (.tuple #[]) ∧ w = w' := by
  have hc0 := hW.c0
  have hc1 := hW.c1
  have hgl := hW.blk.lt
  have hf1 : (f == 0) = false := by rw [beq_eq_false_iff_ne]; exact hf
  clear hf
  go_enter Try.func61, Try.ntmps61
  go_wp2
  go_loop [4, 16] (fun n i => ∃ k : Nat, k ≤ ps.length ∧ i = .int .i64 k ∧ n = .int .i64 ((xs.length + total (ps.take k) : Nat) : Int)) (fun _ i => ps.length - (intOf i).toNat)
  case atStart => exact ⟨0, Nat.zero_le _, rfl, by simp [total]⟩
  case round =>
    obtain ⟨k, hk, rfl, rfl⟩ := hrel
    have htl := total_le ps k
    by_cases hlt : k < ps.length
    · have hck := hP.cell k hlt
      have hts := Lib.hid (total_take ps k hlt)
      have htl2 := total_le ps (k + 1)
      rw [hts.out] at htl2
      go_wp2
      exact ⟨⟨k + 1, by omega, by go_num, by rw [hts.out]; go_num⟩, by simp [intOf]; omega⟩
    · go_wp2
      go_loop [39] (fun i => ∃ k : Nat, k ≤ ps.length ∧ i = .int .i64 k) (fun i => ps.length - (intOf i).toNat)
      case atStart => exact ⟨0, Nat.zero_le _, rfl⟩
      case round =>
        obtain ⟨j, hj, rfl⟩ := hrel
        by_cases hltj : j < ps.length
        · have hck := hP.cell j hltj
          go_wp2
          exact ⟨⟨j + 1, by omega, by go_num⟩, by simp [intOf]; omega⟩
        · go_wp2
          go_end0
          exact ⟨rfl, rfl⟩

theorem add_over (base g lb : Nat) (A : Option Addr) (c : Nat) (xs : List UInt8) (ps : List Part) (w : World) (hW : Wr w base g A c xs 0) (hP : PartsAt w lb ps)
    (hx : xs.length ≤ 4194304) (hover : 4194304 < xs.length + total ps) (ht : total ps ≤ 1000000000000000) (hn : ps.length ≤ 1000) (hne : lb ≠ g) :
    Calls Try.prog 61 #[.pointer (some ⟨g, 0, none⟩), .slice (some ⟨lb, 0, none⟩) ps.length ps.length] w fun e w' => e = .returned (.tuple #[]) ∧ w.setCell ⟨g, 1, none⟩ (.int .i64 2) = w' := by
  have hc0 := hW.c0
  have hc1 := hW.c1
  have hf1 := hW.blk.frozen 1
  have hgl := hW.blk.lt
  go_enter Try.func61, Try.ntmps61
  go_wp2
  go_loop [4, 16] (fun n i => ∃ k : Nat, k ≤ ps.length ∧ i = .int .i64 k ∧ n = .int .i64 ((xs.length + total (ps.take k) : Nat) : Int)) (fun _ i => ps.length - (intOf i).toNat)
  case atStart => exact ⟨0, Nat.zero_le _, rfl, by simp [total]⟩
  case round =>
    obtain ⟨k, hk, rfl, rfl⟩ := hrel
    have htl := total_le ps k
    by_cases hlt : k < ps.length
    · have hck := hP.cell k hlt
      have hts := Lib.hid (total_take ps k hlt)
      have htl2 := total_le ps (k + 1)
      rw [hts.out] at htl2
      go_wp2
      exact ⟨⟨k + 1, by omega, by go_num, by rw [hts.out]; go_num⟩, by simp [intOf]; omega⟩
    · obtain rfl : k = ps.length := by omega
      have htk : total (ps.take ps.length) = total ps := by rw [List.take_length]
      rw [htk]
      clear htk
      have hover' : (4194304 : Int) < ((xs.length + total ps : Nat) : Int) := by omega
      go_wp2
      have hcl : (w.setCell ⟨g, 1, none⟩ (.int .i64 2)).cell? ⟨g, 1, none⟩ = some (.int .i64 2) := World.cell?_setCell_same (w := w) (a := ⟨g, 1, none⟩) (v := .int .i64 2) hc1
      obtain ⟨w1, hw1⟩ : ∃ w1, w1 = w.setCell ⟨g, 1, none⟩ (.int .i64 2) := ⟨_, rfl⟩
      have hcells : ∀ j (h : j < ps.length), w1.cell? ⟨lb, j, none⟩ = some (.slice ps[j].A ps[j].ys.length ps[j].c) := by
        intro j h
        rw [hw1, World.cell?_setCell_other _ _ _ _ (fun e => by injection e with e1; exact hne e1.symm)]
        exact hP.cell j h
      rw [← hw1] at hcl ⊢
      have Hw1 := Lib.hid hw1
      clear hw1 hc1 hf1
      go_loop [39] (fun i => ∃ k : Nat, k ≤ ps.length ∧ i = .int .i64 k) (fun i => ps.length - (intOf i).toNat)
      case atStart => exact ⟨0, Nat.zero_le _, rfl⟩
      case round =>
        obtain ⟨j, hj, rfl⟩ := hrel
        by_cases hltj : j < ps.length
        · have hck := hcells j hltj
          clear hcells
          go_wp2
          exact ⟨⟨j + 1, by omega, by go_num⟩, by simp [intOf]; omega⟩
        · clear hcells
          go_wp2
          go_end0
          exact ⟨rfl, Hw1.out.symm⟩

/-- Behind a put: the Writer holds ys and the fault f; beside its own two blocks nothing that was there has turned. -/
def WrPost (base g : Nat) (A : Option Addr) (w : World) (ys : List UInt8) (f : Int) (w' : World) : Prop :=
  ∃ A' c', Wr w' base g A' c' ys f ∧ (∀ b, A'.map (·.block) = some b → A.map (·.block) = some b ∨ w.heap.size ≤ b) ∧ Only (wrS g A) w w'
theorem Wr.lenA {w : World} {base g : Nat} {A : Option Addr} {c : Nat} {xs : List UInt8} {f : Int} (h : Wr w base g A c xs f) : ∀ b, A.map (·.block) = some b → base ≤ b ∧ b < w.heap.size ∧ b ≠ g := by
  intro b hb
  obtain ⟨h1, h2⟩ := h.own.row b hb
  refine ⟨h1, h2, ?_⟩
  cases A with
  | none => cases hb
  | some a =>
    obtain ⟨ab, ao, asp⟩ := a
    simp only [Option.map_some, Option.some.injEq] at hb
    subst hb
    rcases h.own.2 with ⟨hv, _⟩ | ⟨g', cap, cur, hv, hg', hh, r⟩
    · injection hv with h1; cases h1
    · simp only [Value.slice.injEq, Option.some.injEq, Addr.mk.injEq] at hv
      obtain ⟨⟨rfl, rfl, rfl⟩, _⟩ := hv
      exact h.own.ne_blk h.blk (by decide) _ _ rfl

/-- One list put behind what the Writer held: the append, and the store into its field. -/
theorem put_step {base g : Nat} {A A' A2 : Option Addr} {c' c2 n m : Nat} {ys us zs : List UInt8} {w wr w2 : World} (hW : Wr wr base g A' c' ys 0) (hO : Only (wrS g A) w wr)
    (hA' : ∀ b, A'.map (·.block) = some b → A.map (·.block) = some b ∨ w.heap.size ≤ b) (hg : wr.grownBy w2 (A'.map (·.block))) (hown : Own w2 base 5 1 A2 (n + m) c2 (ys.map bv ++ us.map bv))
    (hn : ys.length = n) (hm : us.length = m) (hat : A2.map (·.block) = A'.map (·.block) ∨ A2.map (·.block) = some wr.heap.size) (hz : zs = ys ++ us) :
    Wr (w2.setCell ⟨g, 0, none⟩ (.slice A2 (n + m) c2)) base g A2 c2 zs 0 ∧ Only (wrS g A) w (w2.setCell ⟨g, 0, none⟩ (.slice A2 (n + m) c2)) ∧ ∀ b, A2.map (·.block) = some b → A.map (·.block) = some b ∨ w.heap.size ≤ b := by
  subst hz
  have hl : (ys ++ us).length = n + m := by rw [List.length_append, hn, hm]
  have hne : ∀ b, A'.map (·.block) = some b → b ≠ g := fun b hb => (hW.lenA b hb).2.2
  have hgr : some g ≠ A'.map (·.block) := fun e => hne g e.symm rfl
  have hne2 : ∀ b o, A2 = some ⟨b, o, none⟩ → b ≠ g := by
    intro b o hA
    have hb : A2.map (·.block) = some b := by rw [hA]; rfl
    rcases hat with h | h
    · exact hne b (by rw [← h]; exact hb)
    · rw [h] at hb
      have := hW.blk.lt
      injection hb with hb
      omega
  refine ⟨⟨?_, ?_⟩, ?_, ?_⟩
  · have := (hW.blk.grown hg hgr).set_ 0 (.slice A2 (n + m) c2)
    rw [hl]
    exact this
  · have h2 : OwnB w2 base A2 (ys ++ us).length c2 (ys ++ us) := OwnB.app hown hn hm
    exact Own.only (S := fun k => k = g) h2 (Only.setCell (S := fun k => k = g) (p := ⟨g, 0, none⟩) (Only.refl _ w2) (.inl rfl) _) hne2
  · exact (hO.grown hg fun k hk => (hA' k hk).imp .inr id).setCell (p := ⟨g, 0, none⟩) (.inl (.inl rfl)) _
  · intro b hb
    rcases hat with h | h
    · exact hA' b (by rw [← h]; exact hb)
    · rw [h] at hb
      have := hO.size
      injection hb with hb
      right
      omega

theorem add_ok (base g lb : Nat) (A : Option Addr) (c : Nat) (xs : List UInt8) (ps : List Part) (w : World) (hW : Wr w base g A c xs 0) (hP : PartsAt w lb ps)
    (hfit : xs.length + total ps ≤ 4194304) (hn : ps.length ≤ 1000) (hlb : ¬ wrS g A lb) (hps : ∀ k (hk : k < ps.length) b o, 0 < ps[k].ys.length → ps[k].A = some ⟨b, o, none⟩ → ¬ wrS g A b) (hbase : base ≤ w.heap.size) :
    Calls Try.prog 61 #[.pointer (some ⟨g, 0, none⟩), .slice (some ⟨lb, 0, none⟩) ps.length ps.length] w fun e w' => e = .returned (.tuple #[]) ∧ WrPost base g A w (xs ++ cat ps) 0 w' := by
  have hc0 := hW.c0
  have hc1 := hW.c1
  have hgl := hW.blk.lt
  go_enter Try.func61, Try.ntmps61
  go_wp2
  go_loop [4, 16] (fun n i => ∃ k : Nat, k ≤ ps.length ∧ i = .int .i64 k ∧ n = .int .i64 ((xs.length + total (ps.take k) : Nat) : Int)) (fun _ i => ps.length - (intOf i).toNat)
  case atStart => exact ⟨0, Nat.zero_le _, rfl, by simp [total]⟩
  case round =>
    obtain ⟨k, hk, rfl, rfl⟩ := hrel
    have htl := total_le ps k
    by_cases hlt : k < ps.length
    · have hck := hP.cell k hlt
      have hts := Lib.hid (total_take ps k hlt)
      have htl2 := total_le ps (k + 1)
      rw [hts.out] at htl2
      go_wp2
      exact ⟨⟨k + 1, by omega, by go_num, by rw [hts.out]; go_num⟩, by simp [intOf]; omega⟩
    · obtain rfl : k = ps.length := by omega
      have htk : total (ps.take ps.length) = total ps := by rw [List.take_length]
      rw [htk]
      clear htk htl
      have hfit' : ¬ (4194304 : Int) < ((xs.length + total ps : Nat) : Int) := by omega
      go_wp2
      clear hc0 hc1
      go_loopw [39] (fun i wr => ∃ (k : Nat) (A' : Option Addr) (c' : Nat) (ys : List UInt8), k ≤ ps.length ∧ i = .int .i64 k ∧ Hid (ys = xs ++ cat (ps.take k)) ∧ Wr wr base g A' c' ys 0 ∧ Hid (∀ b, A'.map (·.block) = some b → A.map (·.block) = some b ∨ w.heap.size ≤ b) ∧ Only (wrS g A) w wr) (fun i _ => ps.length - (intOf i).toNat)
      case atStart => exact ⟨0, A, c, xs, Nat.zero_le _, rfl, by simp [Hid, cat], hW, fun b hb => .inl hb, Only.refl _ _⟩
      case round =>
        obtain ⟨j, A', c', ys, hj, rfl, hys, hWj, hA', hO⟩ := hrel
        by_cases hltj : j < ps.length
        · have hPj := hP.only hO hlb hps
          have hck := hPj.cell j hltj
          have hrvj := hPj.rv j hltj
          have hnilj := Lib.hid (hPj.nil j hltj)
          have hc0 := hWj.c0
          have hc1 := hWj.c1
          have hf0 := hWj.blk.frozen 0
          have hgl := hWj.blk.lt
          have htl2 := total_le ps (j + 1)
          have hts := total_take ps j hltj
          have hlen : ys.length + ps[j].ys.length ≤ 4194304 := by
            rw [hys.out, List.length_append, length_cat]; omega
          clear hts htl2
          have Hown := hWj.own
          go_wp2_with (at_builtin; refine wpList_app rfl (.tmp 52) (.tmp 53) eByte rfl (base := base) (n := ys.length) (c := c') (A := A') (vs := ys.map bv) rfl Hown (A' := ps[j].A) (m := ps[j].ys.length) (c' := ps[j].c) (us := ps[j].ys.map bv) rfl hrvj (by simp) (map_bv_one _) (by unfold maxLen; omega) (by omega) (Nat.le_trans hbase hO.size) hnilj.out ?_; intro A2 c2 w2 hown2 hg2 hat2; have hb2 := hWj.blk.grown hg2 (fun e => (hWj.lenA g e.symm).2.2 rfl); have hf2 := hb2.frozen 0; have hc2 : w2.cell? ⟨g, 0, none⟩ = some (.slice A' ys.length c') := by rw [hb2.cell]; rfl)
          have hzz : xs ++ cat (ps.take (j + 1)) = ys ++ ps[j].ys := by rw [cat_take ps j hltj, ← List.append_assoc, ← hys.out]
          obtain ⟨hw3, ho3, ha3⟩ := put_step hWj hO hA'.out hg2 hown2 rfl rfl hat2 hzz
          exact ⟨⟨j + 1, A2, c2, _, by omega, by go_num, rfl, hw3, ha3, ho3⟩, by simp [intOf]; omega⟩
        · go_wp2
          go_end0
          obtain rfl : j = ps.length := by omega
          have e := hys.out
          rw [List.take_length] at e
          subst e
          exact ⟨rfl, A', c', hWj, hA'.out, hO⟩

/-- What a Writer holds behind more bytes. -/
def putL (xs : List UInt8) (f : Int) (ys : List UInt8) : List UInt8 × Int :=
  if f = 0 then (if xs.length + ys.length ≤ 4194304 then (xs ++ ys, 0) else (xs, 2)) else (xs, f)
theorem putL_le (xs : List UInt8) (f : Int) (ys : List UInt8) (h : xs.length ≤ 4194304) : (putL xs f ys).1.length ≤ 4194304 := by
  unfold putL
  split
  · split
    · rw [List.length_append]; assumption
    · exact h
  · exact h

theorem add_any (base g lb : Nat) (A : Option Addr) (c : Nat) (xs : List UInt8) (f : Int) (ps : List Part) (w : World) (hW : Wr w base g A c xs f) (hP : PartsAt w lb ps)
    (hx : xs.length ≤ 4194304) (ht : total ps ≤ 1000000000000000) (hn : ps.length ≤ 1000) (hlb : ¬ wrS g A lb) (hps : ∀ k (hk : k < ps.length) b o, 0 < ps[k].ys.length → ps[k].A = some ⟨b, o, none⟩ → ¬ wrS g A b) (hbase : base ≤ w.heap.size) :
    Calls Try.prog 61 #[.pointer (some ⟨g, 0, none⟩), .slice (some ⟨lb, 0, none⟩) ps.length ps.length] w fun e w' => e = .returned (.tuple #[]) ∧ WrPost base g A w (putL xs f (cat ps)).1 (putL xs f (cat ps)).2 w' := by
  by_cases hf : f = 0
  · subst hf
    by_cases hfit : xs.length + total ps ≤ 4194304
    · have e : putL xs 0 (cat ps) = (xs ++ cat ps, 0) := by unfold putL; rw [if_pos rfl, length_cat, if_pos hfit]
      rw [e]
      exact add_ok base g lb A c xs ps w hW hP hfit hn hlb hps hbase
    · have e : putL xs 0 (cat ps) = (xs, 2) := by unfold putL; rw [if_pos rfl, length_cat, if_neg hfit]
      rw [e]
      refine (add_over base g lb A c xs ps w hW hP hx (by omega) ht hn (fun h => hlb (.inl h))).mono ?_
      rintro e w' ⟨he, rfl⟩
      refine ⟨he, A, c, ⟨hW.blk.set_ 1 _, Own.only (S := fun k => k = g) hW.own (Only.setCell (S := fun k => k = g) (p := ⟨g, 1, none⟩) (Only.refl _ w) (.inl rfl) _) ?_⟩, fun b hb => .inl hb, Only.setCell (p := ⟨g, 1, none⟩) (Only.refl _ w) (.inl (.inl rfl)) _⟩
      intro b o hA
      exact (hW.lenA b (by rw [hA]; rfl)).2.2
  · have e : putL xs f (cat ps) = (xs, f) := by unfold putL; rw [if_neg hf]
    rw [e]
    refine (add_bad base g lb A c xs f ps w hW hP hf hx ht hn).mono ?_
    rintro e w' ⟨he, rfl⟩
    exact ⟨he, A, c, hW, fun b hb => .inl hb, Only.refl _ _⟩
end Go.Proofs.Ytmmdkpnoncnjnaa
