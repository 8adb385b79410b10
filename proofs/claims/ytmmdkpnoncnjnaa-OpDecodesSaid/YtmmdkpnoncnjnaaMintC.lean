/- Contracts of mint's Writer: Num, Int, Bool, Bytes, Text, Raw, Done; bytes.Clone. -/
import Derived.Test.YtmmdkpnoncnjnaaMintB
namespace Go.Proofs.Ytmmdkpnoncnjnaa
open Go.RowKit

/-- A slice of bytes: where, how much room, what it reads as. -/
structure Sl (w : World) (p : Part) : Prop where
  rv : RV w p.A (p.ys.map bv)
  nil : p.A = none → p.ys.length = 0 ∧ p.c = 0
abbrev Part.val (p : Part) : Value := .slice p.A p.ys.length p.c
theorem Sl.below {w w' : World} {p : Part} (h : Sl w p) (hb : Below w.heap.size w w') : Sl w' p := ⟨h.rv.below hb, h.nil⟩
theorem Sl.drewN {w : World} {p : Part} (h : Sl w p) (n : Nat) : Sl (w.drewN n) p := h.below (below_drewN (Below.refl _ _) n)
theorem Sl.only {S : Nat → Prop} {w w' : World} {p : Part} (h : Sl w p) (ho : Only S w w') (hn : ∀ b o, 0 < p.ys.length → p.A = some ⟨b, o, none⟩ → ¬ S b) : Sl w' p :=
  ⟨h.rv.only ho fun h0 b o hA => hn b o (List.length_pos_iff.2 fun e => h0 (by rw [e]; rfl)) hA, h.nil⟩
theorem Sl.of_own {w : World} {base n c : Nat} {A : Option Addr} {ys : List UInt8} (h : OwnB w base A n c ys) : Sl w ⟨A, c, ys⟩ := by
  refine ⟨RV.of_own h, fun hA => ?_⟩
  subst hA
  rcases h.2 with ⟨hv, h0⟩ | ⟨g, cap, cur, hv, _⟩
  · injection hv with _ h1 h2
    exact ⟨by have := h.len; show ys.length = 0; omega, h2⟩
  · cases hv
theorem PartsAt.one {w : World} {p : Part} {t : TypeId} (h : Sl w p) : PartsAt (w.alloc (.cells #[.slice p.A p.ys.length p.c] t)) w.heap.size [p] := by
  refine ⟨by simp, fun k hk => ?_, fun k hk => ?_, fun k hk => ?_⟩
  all_goals obtain rfl : k = 0 := by simpa using hk
  · exact (Blk.new w t #[.slice p.A p.ys.length p.c]).cell 0
  · exact h.rv.alloc _
  · exact h.nil
theorem PartsAt.two {w : World} {p q : Part} {t : TypeId} (h : Sl w p) (h' : Sl w q) : PartsAt (w.alloc (.cells #[.slice p.A p.ys.length p.c, .slice q.A q.ys.length q.c] t)) w.heap.size [p, q] := by
  refine ⟨by simp, fun k hk => ?_, fun k hk => ?_, fun k hk => ?_⟩
  all_goals rcases (show k = 0 ∨ k = 1 by simp at hk; omega) with rfl | rfl
  · exact (Blk.new w t #[.slice p.A p.ys.length p.c, .slice q.A q.ys.length q.c]).cell 0
  · exact (Blk.new w t #[.slice p.A p.ys.length p.c, .slice q.A q.ys.length q.c]).cell 1
  · exact h.rv.alloc _
  · exact h'.rv.alloc _
  · exact h.nil
  · exact h'.nil

theorem Wr.below {w w' : World} {base g : Nat} {A : Option Addr} {c : Nat} {xs : List UInt8} {f : Int} (h : Wr w base g A c xs f) (hb : Below w.heap.size w w') : Wr w' base g A c xs f :=
  ⟨h.blk.below hb h.blk.lt, Own.below h.own hb (Nat.le_refl _)⟩
theorem Wr.far {w : World} {base g : Nat} {A : Option Addr} {c : Nat} {xs : List UInt8} {f : Int} (h : Wr w base g A c xs f) {b : Nat} (hb : w.heap.size ≤ b) : ¬ wrS g A b := by
  rintro (h1 | h1)
  · have := h.blk.lt; omega
  · have := (h.lenA b h1).2.1; omega
theorem WrPost.of_below {w w2 w' : World} {base g : Nat} {A : Option Addr} {ys : List UInt8} {f : Int} (hb : Below w.heap.size w w2) (h : WrPost base g A w2 ys f w') : WrPost base g A w ys f w' := by
  obtain ⟨A', c', h1, h2, h3⟩ := h
  exact ⟨A', c', h1, fun b hb' => (h2 b hb').imp id fun h => Nat.le_trans hb.size h, (Only.of_fresh hb).trans h3⟩

theorem add_fresh (base g lb : Nat) (A : Option Addr) (c : Nat) (xs : List UInt8) (f : Int) (ps : List Part) (w w2 : World) (hW : Wr w base g A c xs f) (hb : Below w.heap.size w w2) (hP : PartsAt w2 lb ps)
    (hx : xs.length ≤ 4194304) (ht : total ps ≤ 1000000000000000) (hn : ps.length ≤ 1000) (hlb : w.heap.size ≤ lb) (hps : ∀ k (hk : k < ps.length) b o, 0 < ps[k].ys.length → ps[k].A = some ⟨b, o, none⟩ → w.heap.size ≤ b ∨ ¬ wrS g A b) (hbase : base ≤ w.heap.size) :
    Calls Try.prog 61 #[.pointer (some ⟨g, 0, none⟩), .slice (some ⟨lb, 0, none⟩) ps.length ps.length] w2 fun e w' => e = .returned (.tuple #[]) ∧ WrPost base g A w (putL xs f (cat ps)).1 (putL xs f (cat ps)).2 w' :=
  (add_any base g lb A c xs f ps w2 (hW.below hb) hP hx ht hn (hW.far hlb) (fun k hk b o h0 hA => (hps k hk b o h0 hA).elim (fun h => hW.far h) id) (Nat.le_trans hbase hb.size)).mono
    fun _ _ ⟨he, hp⟩ => ⟨he, hp.of_below hb⟩

/-- What a Writer holds behind Num. -/
def numL (xs : List UInt8) (f n : Int) : List UInt8 × Int := if n < 0 then (xs, if f = 0 then 1 else f) else putL xs f (formL n.toNat)

theorem num_neg (base g : Nat) (A : Option Addr) (c : Nat) (xs : List UInt8) (f n : Int) (w : World) (hW : Wr w base g A c xs f) (hn : n < 0) :
    Calls Try.prog 39 #[.pointer (some ⟨g, 0, none⟩), .int .i64 n] w fun e w' => e = .returned (.tuple #[]) ∧ WrPost base g A w (numL xs f n).1 (numL xs f n).2 w' := by
  have hc1 := hW.c1
  have hf1 := hW.blk.frozen 1
  have hgl := hW.blk.lt
  by_cases hf : f = 0
  · subst hf
    have e : numL xs 0 n = (xs, 1) := by unfold numL; rw [if_pos hn, if_pos rfl]
    rw [e]
    clear e
    go_enter Try.func39, Try.ntmps39
    go_wp2_with fail
    refine bodyPost_ret (results_none rfl _ _ _) rfl ⟨rfl, A, c, ⟨hW.blk.set_ 1 _, Own.only (S := fun k => k = g) hW.own (Only.setCell (S := fun k => k = g) (p := ⟨g, 1, none⟩) (Only.refl _ w) (.inl rfl) _) ?_⟩, fun b hb => .inl hb, Only.setCell (p := ⟨g, 1, none⟩) (Only.refl _ w) (.inl (.inl rfl)) _⟩
    intro b o hA
    exact (hW.lenA b (by rw [hA]; rfl)).2.2
  · have hfb : (f == 0) = false := by rw [beq_eq_false_iff_ne]; exact hf
    have e : numL xs f n = (xs, f) := by unfold numL; rw [if_pos hn, if_neg hf]
    rw [e]
    clear hf e
    go_enter Try.func39, Try.ntmps39
    go_wp2_with fail
    exact bodyPost_ret (results_none rfl _ _ _) rfl ⟨rfl, A, c, hW, fun b hb => .inl hb, Only.refl _ _⟩

theorem num_pos (base g : Nat) (A : Option Addr) (c : Nat) (xs : List UInt8) (f : Int) (n : Nat) (w : World) (hW : Wr w base g A c xs f) (hn : n < 9223372036854775808) (hx : xs.length ≤ 4194304) (hbase : base ≤ w.heap.size) :
    Calls Try.prog 39 #[.pointer (some ⟨g, 0, none⟩), .int .i64 n] w fun e w' => e = .returned (.tuple #[]) ∧ WrPost base g A w (numL xs f n).1 (numL xs f n).2 w' := by
  have e : numL xs f n = putL xs f (cat [⟨none, 0, formL n⟩]) := by unfold numL; rw [if_neg (by omega)]; simp [cat]
  rw [e]
  clear e
  have hlt : n ≤ 9223372036854775807 := by omega
  clear hn
  go_enter Try.func39, Try.ntmps39
  go_wp2_with fail
  refine (form_any n w (by omega)).mono ?_
  rintro e w1 ⟨A1, c1, rfl, hown1, hb1⟩
  go_wp2_with fail
  refine (add_fresh base g w1.heap.size A c xs f [⟨A1, c1, formL n⟩] w _ hW (hb1.alloc hb1.size _) (PartsAt.one (Sl.of_own hown1)) hx (by have := formL_le n; simp [total]; omega) (by simp) hb1.size (fun k hk b o h0 hA => ?_) hbase).mono ?_
  · obtain rfl : k = 0 := by simpa using hk
    exact .inl (hown1.lt b o hA).1
  · rintro e w' ⟨rfl, hpost⟩
    go_wp2_with fail
    go_end0
    exact ⟨rfl, hpost⟩

theorem num_any (base g : Nat) (A : Option Addr) (c : Nat) (xs : List UInt8) (f n : Int) (w : World) (hW : Wr w base g A c xs f) (hn : n < 9223372036854775808) (hx : xs.length ≤ 4194304) (hbase : base ≤ w.heap.size) :
    Calls Try.prog 39 #[.pointer (some ⟨g, 0, none⟩), .int .i64 n] w fun e w' => e = .returned (.tuple #[]) ∧ WrPost base g A w (numL xs f n).1 (numL xs f n).2 w' := by
  by_cases h : n < 0
  · exact num_neg base g A c xs f n w hW h
  · obtain ⟨m, rfl⟩ := Int.eq_ofNat_of_zero_le (by omega : 0 ≤ n)
    exact num_pos base g A c xs f m w hW (by omega) hx hbase

theorem int_any (base g : Nat) (A : Option Addr) (c : Nat) (xs : List UInt8) (f n : Int) (w : World) (hW : Wr w base g A c xs f) (hn0 : -9223372036854775808 ≤ n) (hn : n < 9223372036854775808) (hx : xs.length ≤ 4194304) (hbase : base ≤ w.heap.size) :
    Calls Try.prog 58 #[.pointer (some ⟨g, 0, none⟩), .int .i64 n] w fun e w' => e = .returned (.tuple #[]) ∧ WrPost base g A w (putL xs f (formL (foldN n))).1 (putL xs f (formL (foldN n))).2 w' := by
  have e : formL (foldN n) = cat [⟨none, 0, formL (foldN n)⟩] := by simp [cat]
  rw [e]
  clear e
  have hfb := Lib.hid (fold_bits n hn0 hn)
  have hfl := Lib.hid (foldN_lt n hn0 hn)
  clear hn0 hn
  go_enter Try.func58, Try.ntmps58
  go_wp2_with fail
  rw [hfb.out]
  refine (form_any (foldN n) w hfl.out).mono ?_
  rintro e w1 ⟨A1, c1, rfl, hown1, hb1⟩
  go_wp2_with fail
  refine (add_fresh base g w1.heap.size A c xs f [⟨A1, c1, formL (foldN n)⟩] w _ hW (hb1.alloc hb1.size _) (PartsAt.one (Sl.of_own hown1)) hx (by have := formL_le (foldN n); simp [total]; omega) (by simp) hb1.size (fun k hk b o h0 hA => ?_) hbase).mono ?_
  · obtain rfl : k = 0 := by simpa using hk
    exact .inl (hown1.lt b o hA).1
  · rintro e w' ⟨rfl, hpost⟩
    go_wp2_with fail
    go_end0
    exact ⟨rfl, hpost⟩

/-- A bool's form. -/
def boolL (x : Bool) : List UInt8 := [if x then 1 else 0]
end Go.Proofs.Ytmmdkpnoncnjnaa
