/- Contract of the law's put: one thing into the program's writer. -/
import Derived.Test.YtefaapcekbgjoaaLend
namespace Go.Proofs.Ytefaapcekbgjoaa
open Go.RowKit

/-- One thing to be put: its kind, its number, its bytes. -/
structure Item where
  kind : Int
  n : Int
  p : Part
abbrev Item.val (x : Item) : Value := .agg #[.int .i64 x.kind, .int .i64 x.n, .slice x.p.A x.p.ys.length x.p.c]
/-- The numbers fit, and the bytes are no more than memory holds. -/
structure Item.ok (x : Item) : Prop where
  k1 : -9223372036854775808 ≤ x.kind
  k2 : x.kind ≤ 9223372036854775807
  n1 : -9223372036854775808 ≤ x.n
  n2 : x.n ≤ 9223372036854775807
  len : x.p.ys.length ≤ 140737488355328
/-- What a Writer holds behind a thing. -/
def putItem (xs : List UInt8) (f : Int) (x : Item) : List UInt8 × Int :=
  if x.kind = 1 then numL xs f x.n
  else if x.kind = 2 then putL xs f (formL (foldN x.n))
  else if x.kind = 3 then putL xs f (boolL (x.n == 1))
  else if x.kind = 4 then putL xs f (formL x.p.ys.length ++ x.p.ys)
  else if x.kind = 5 then putL xs f (formL x.p.ys.length ++ x.p.ys)
  else if x.kind = 6 then putL xs f x.p.ys
  else (xs, f)

theorem Wr.refl_post {w : World} {base g : Nat} {A : Option Addr} {c : Nat} {xs : List UInt8} {f : Int} (h : Wr w base g A c xs f) : WrPost base g A w xs f w := ⟨A, c, h, fun _ hb => .inl hb, Only.refl _ _⟩
theorem WrPost.other {w w2 w3 w4 : World} {base g g1 : Nat} {A : Option Addr} {ys : List UInt8} {f : Int} (hb : Below w.heap.size w w2) (h : WrPost base g A w2 ys f w3) (hO : Only (fun k => k = g1) w3 w4) (h1 : w.heap.size ≤ g1) (h2 : g1 < w2.heap.size)
    (hn : ¬ wrS g A g1) : WrPost base g A w ys f w4 := by
  obtain ⟨A', c', hW, hA, hO1⟩ := h
  refine ⟨A', c', ⟨hW.blk.only hO fun e => hn (.inl e.symm), Own.only hW.own hO fun _ _ hA' e => ?_⟩, fun b hb' => (hA b hb').imp id fun h => Nat.le_trans hb.size h, ?_⟩
  · subst e
    rcases hA _ (by rw [hA']; rfl) with h | h
    · exact hn (.inr h)
    · dsimp only at h
      omega
  · exact ((Only.of_fresh hb).trans hO1).more hO fun k hk e => by omega
theorem lent_sl {w : World} {g M : Nat} {ys : List UInt8} (hblk : Blk w g 5 (lentL ys M M).toArray) : Sl w ⟨some ⟨g, 0, none⟩, ys.length + M, ys⟩ := by
  refine ⟨?_, fun h => by cases h⟩
  have h1 : RV w (some ⟨g, 0, none⟩) (lentL ys M M) := by simpa using RV.of_blk hblk
  have h2 := h1.cut 0 ys.length
  simpa [lentL] using h2


set_option maxRecDepth 100000 in
theorem put_num (base g : Nat) (A : Option Addr) (c : Nat) (xs : List UInt8) (f : Int) (x : Item) (w : World) (hW : Wr w base g A c xs f) (hx : xs.length ≤ 4194304) (hbase : base ≤ w.heap.size) (hp : Sl w x.p) (hok : x.ok)
    (hps : ∀ b o, 0 < x.p.ys.length → x.p.A = some ⟨b, o, none⟩ → ¬ wrS g A b) (hk : x.kind = 1) :
    Calls Try.prog 19 #[.pointer (some ⟨g, 0, none⟩), x.val] w fun e w' => e = .returned (.bool true) ∧ WrPost base g A w (putItem xs f x).1 (putItem xs f x).2 w' := by
  obtain ⟨kd, n, p⟩ := x
  change kd = 1 at hk
  subst hk
  have hok1 := hok.n1
  have hok2 := hok.n2
  have hlen := hok.len
  have hpsH := Lib.hid hps
  dsimp only at hok1 hok2 hlen
  have hres : putItem xs f ⟨1, n, p⟩ = numL xs f n := by
    unfold putItem
    simp
  rw [hres]
  clear hok hres hps
  have hp1 := fun o => hp.below ((Below.refl _ w).alloc (Nat.le_refl _) o)
  have hp1H := Lib.hid hp1
  have hslH := Lib.hid hp
  clear hp1 hp
  go_enter Try.func19, Try.ntmps19
  go_wp2_with fail
  refine (lend_any p _ (hp1H.out _) hlen).mono ?_
  rintro e w2 ⟨g1, rfl, hblk, hg1, hb2⟩
  obtain ⟨hc2, hf2⟩ := bcell hb2
  have hg1' : w.heap.size < g1 := by simp only [World.size_alloc] at hg1; omega
  have hg1lt := hblk.lt
  have hB : Below w.heap.size w w2 := ((Below.refl _ _).alloc (Nat.le_refl _) _).trans (hb2.mono (by simp))
  have hcell : w2.cell? ⟨w.heap.size, 2, none⟩ = some (.slice p.A p.ys.length p.c) := by rw [hc2 _ _ (by simp)]; simp
  have hbox : w.heap.size < w2.heap.size := by omega
  clear hb2 hg1
  have HB := Lib.hid hB
  have HW2 := Lib.hid (hW.below hB)
  have Hn1 := Lib.hid (hW.far (b := g1) (by omega))
  have Hn0 := Lib.hid (hW.far (b := w.heap.size) (Nat.le_refl _))
  have Hp2 := Lib.hid (hslH.out.below hB)
  have Hblk := Lib.hid hblk
  have hbase2 := Nat.le_trans hbase hB.size
  clear hB hblk hp1H hslH
  go_wp2_with fail
  refine (num_any base g A c xs f n w2 HW2.out (by omega) hx hbase2).mono ?_
  rintro e w3 ⟨rfl, hpost⟩
  obtain ⟨A3, c3, hW3, hA3, hO3⟩ := hpost
  have hcell3 : w3.cell? ⟨w.heap.size, 2, none⟩ = some (.slice p.A p.ys.length p.c) := (hO3.cell (p := ⟨w.heap.size, 2, none⟩) hbox Hn0.out).trans hcell
  have hbox3 : w.heap.size < w3.heap.size := Nat.lt_of_lt_of_le hbox hO3.size
  have Hblk3 := Lib.hid (Hblk.out.only hO3 Hn1.out)
  have Hp3 := Lib.hid (Hp2.out.only hO3 hpsH.out)
  have Hpost := Lib.hid (show WrPost base g A w2 _ _ w3 from ⟨A3, c3, hW3, hA3, hO3⟩)
  clear hW3 hA3 hO3 hc2 hf2 hcell
  go_wp2_with fail
  refine (back_any p g1 _ Hp3.out hlen Hblk3.out).mono ?_
  rintro e w4 ⟨rfl, hO4⟩
  have HO4 := Lib.hid hO4
  clear hO4
  go_wp2_with fail
  go_ret
  exact ⟨rfl, WrPost.other HB.out Hpost.out HO4.out (by omega) hg1lt Hn1.out⟩

set_option maxRecDepth 100000 in
theorem put_int (base g : Nat) (A : Option Addr) (c : Nat) (xs : List UInt8) (f : Int) (x : Item) (w : World) (hW : Wr w base g A c xs f) (hx : xs.length ≤ 4194304) (hbase : base ≤ w.heap.size) (hp : Sl w x.p) (hok : x.ok)
    (hps : ∀ b o, 0 < x.p.ys.length → x.p.A = some ⟨b, o, none⟩ → ¬ wrS g A b) (hk : x.kind = 2) :
    Calls Try.prog 19 #[.pointer (some ⟨g, 0, none⟩), x.val] w fun e w' => e = .returned (.bool true) ∧ WrPost base g A w (putItem xs f x).1 (putItem xs f x).2 w' := by
  obtain ⟨kd, n, p⟩ := x
  change kd = 2 at hk
  subst hk
  have hok1 := hok.n1
  have hok2 := hok.n2
  have hlen := hok.len
  have hpsH := Lib.hid hps
  dsimp only at hok1 hok2 hlen
  have hres : putItem xs f ⟨2, n, p⟩ = putL xs f (formL (foldN n)) := by
    unfold putItem
    simp
  rw [hres]
  clear hok hres hps
  have hp1 := fun o => hp.below ((Below.refl _ w).alloc (Nat.le_refl _) o)
  have hp1H := Lib.hid hp1
  have hslH := Lib.hid hp
  clear hp1 hp
  go_enter Try.func19, Try.ntmps19
  go_wp2_with fail
  refine (lend_any p _ (hp1H.out _) hlen).mono ?_
  rintro e w2 ⟨g1, rfl, hblk, hg1, hb2⟩
  obtain ⟨hc2, hf2⟩ := bcell hb2
  have hg1' : w.heap.size < g1 := by simp only [World.size_alloc] at hg1; omega
  have hg1lt := hblk.lt
  have hB : Below w.heap.size w w2 := ((Below.refl _ _).alloc (Nat.le_refl _) _).trans (hb2.mono (by simp))
  have hcell : w2.cell? ⟨w.heap.size, 2, none⟩ = some (.slice p.A p.ys.length p.c) := by rw [hc2 _ _ (by simp)]; simp
  have hbox : w.heap.size < w2.heap.size := by omega
  clear hb2 hg1
  have HB := Lib.hid hB
  have HW2 := Lib.hid (hW.below hB)
  have Hn1 := Lib.hid (hW.far (b := g1) (by omega))
  have Hn0 := Lib.hid (hW.far (b := w.heap.size) (Nat.le_refl _))
  have Hp2 := Lib.hid (hslH.out.below hB)
  have Hblk := Lib.hid hblk
  have hbase2 := Nat.le_trans hbase hB.size
  clear hB hblk hp1H hslH
  go_wp2_with fail
  refine (int_any base g A c xs f n w2 HW2.out (by omega) (by omega) hx hbase2).mono ?_
  rintro e w3 ⟨rfl, hpost⟩
  obtain ⟨A3, c3, hW3, hA3, hO3⟩ := hpost
  have hcell3 : w3.cell? ⟨w.heap.size, 2, none⟩ = some (.slice p.A p.ys.length p.c) := (hO3.cell (p := ⟨w.heap.size, 2, none⟩) hbox Hn0.out).trans hcell
  have hbox3 : w.heap.size < w3.heap.size := Nat.lt_of_lt_of_le hbox hO3.size
  have Hblk3 := Lib.hid (Hblk.out.only hO3 Hn1.out)
  have Hp3 := Lib.hid (Hp2.out.only hO3 hpsH.out)
  have Hpost := Lib.hid (show WrPost base g A w2 _ _ w3 from ⟨A3, c3, hW3, hA3, hO3⟩)
  clear hW3 hA3 hO3 hc2 hf2 hcell
  go_wp2_with fail
  refine (back_any p g1 _ Hp3.out hlen Hblk3.out).mono ?_
  rintro e w4 ⟨rfl, hO4⟩
  have HO4 := Lib.hid hO4
  clear hO4
  go_wp2_with fail
  go_ret
  exact ⟨rfl, WrPost.other HB.out Hpost.out HO4.out (by omega) hg1lt Hn1.out⟩

set_option maxRecDepth 100000 in
theorem put_bool (base g : Nat) (A : Option Addr) (c : Nat) (xs : List UInt8) (f : Int) (x : Item) (w : World) (hW : Wr w base g A c xs f) (hx : xs.length ≤ 4194304) (hbase : base ≤ w.heap.size) (hp : Sl w x.p) (hok : x.ok)
    (hps : ∀ b o, 0 < x.p.ys.length → x.p.A = some ⟨b, o, none⟩ → ¬ wrS g A b) (hk : x.kind = 3) :
    Calls Try.prog 19 #[.pointer (some ⟨g, 0, none⟩), x.val] w fun e w' => e = .returned (.bool true) ∧ WrPost base g A w (putItem xs f x).1 (putItem xs f x).2 w' := by
  obtain ⟨kd, n, p⟩ := x
  change kd = 3 at hk
  subst hk
  have hok1 := hok.n1
  have hok2 := hok.n2
  have hlen := hok.len
  have hpsH := Lib.hid hps
  dsimp only at hok1 hok2 hlen
  have hres : putItem xs f ⟨3, n, p⟩ = putL xs f (boolL (n == 1)) := by
    unfold putItem
    simp
  rw [hres]
  clear hok hres hps
  have hp1 := fun o => hp.below ((Below.refl _ w).alloc (Nat.le_refl _) o)
  have hp1H := Lib.hid hp1
  have hslH := Lib.hid hp
  clear hp1 hp
  go_enter Try.func19, Try.ntmps19
  go_wp2_with fail
  refine (lend_any p _ (hp1H.out _) hlen).mono ?_
  rintro e w2 ⟨g1, rfl, hblk, hg1, hb2⟩
  obtain ⟨hc2, hf2⟩ := bcell hb2
  have hg1' : w.heap.size < g1 := by simp only [World.size_alloc] at hg1; omega
  have hg1lt := hblk.lt
  have hB : Below w.heap.size w w2 := ((Below.refl _ _).alloc (Nat.le_refl _) _).trans (hb2.mono (by simp))
  have hcell : w2.cell? ⟨w.heap.size, 2, none⟩ = some (.slice p.A p.ys.length p.c) := by rw [hc2 _ _ (by simp)]; simp
  have hbox : w.heap.size < w2.heap.size := by omega
  clear hb2 hg1
  have HB := Lib.hid hB
  have HW2 := Lib.hid (hW.below hB)
  have Hn1 := Lib.hid (hW.far (b := g1) (by omega))
  have Hn0 := Lib.hid (hW.far (b := w.heap.size) (Nat.le_refl _))
  have Hp2 := Lib.hid (hslH.out.below hB)
  have Hblk := Lib.hid hblk
  have hbase2 := Nat.le_trans hbase hB.size
  clear hB hblk hp1H hslH
  go_wp2_with fail
  refine (bool_any base g A c xs f (n == 1) w2 HW2.out hx hbase2).mono ?_
  rintro e w3 ⟨rfl, hpost⟩
  obtain ⟨A3, c3, hW3, hA3, hO3⟩ := hpost
  have hcell3 : w3.cell? ⟨w.heap.size, 2, none⟩ = some (.slice p.A p.ys.length p.c) := (hO3.cell (p := ⟨w.heap.size, 2, none⟩) hbox Hn0.out).trans hcell
  have hbox3 : w.heap.size < w3.heap.size := Nat.lt_of_lt_of_le hbox hO3.size
  have Hblk3 := Lib.hid (Hblk.out.only hO3 Hn1.out)
  have Hp3 := Lib.hid (Hp2.out.only hO3 hpsH.out)
  have Hpost := Lib.hid (show WrPost base g A w2 _ _ w3 from ⟨A3, c3, hW3, hA3, hO3⟩)
  clear hW3 hA3 hO3 hc2 hf2 hcell
  go_wp2_with fail
  refine (back_any p g1 _ Hp3.out hlen Hblk3.out).mono ?_
  rintro e w4 ⟨rfl, hO4⟩
  have HO4 := Lib.hid hO4
  clear hO4
  go_wp2_with fail
  go_ret
  exact ⟨rfl, WrPost.other HB.out Hpost.out HO4.out (by omega) hg1lt Hn1.out⟩

set_option maxRecDepth 100000 in
theorem put_bytes (base g : Nat) (A : Option Addr) (c : Nat) (xs : List UInt8) (f : Int) (x : Item) (w : World) (hW : Wr w base g A c xs f) (hx : xs.length ≤ 4194304) (hbase : base ≤ w.heap.size) (hp : Sl w x.p) (hok : x.ok)
    (hps : ∀ b o, 0 < x.p.ys.length → x.p.A = some ⟨b, o, none⟩ → ¬ wrS g A b) (hk : x.kind = 4) :
    Calls Try.prog 19 #[.pointer (some ⟨g, 0, none⟩), x.val] w fun e w' => e = .returned (.bool true) ∧ WrPost base g A w (putItem xs f x).1 (putItem xs f x).2 w' := by
  obtain ⟨kd, n, p⟩ := x
  change kd = 4 at hk
  subst hk
  have hok1 := hok.n1
  have hok2 := hok.n2
  have hlen := hok.len
  have hpsH := Lib.hid hps
  dsimp only at hok1 hok2 hlen
  have hres : putItem xs f ⟨4, n, p⟩ = putL xs f (formL p.ys.length ++ p.ys) := by
    unfold putItem
    simp
  rw [hres]
  clear hok hres hps
  have hp1 := fun o => hp.below ((Below.refl _ w).alloc (Nat.le_refl _) o)
  have hp1H := Lib.hid hp1
  have hslH := Lib.hid hp
  clear hp1 hp
  go_enter Try.func19, Try.ntmps19
  go_wp2_with fail
  refine (lend_any p _ (hp1H.out _) hlen).mono ?_
  rintro e w2 ⟨g1, rfl, hblk, hg1, hb2⟩
  obtain ⟨hc2, hf2⟩ := bcell hb2
  have hg1' : w.heap.size < g1 := by simp only [World.size_alloc] at hg1; omega
  have hg1lt := hblk.lt
  have hB : Below w.heap.size w w2 := ((Below.refl _ _).alloc (Nat.le_refl _) _).trans (hb2.mono (by simp))
  have hcell : w2.cell? ⟨w.heap.size, 2, none⟩ = some (.slice p.A p.ys.length p.c) := by rw [hc2 _ _ (by simp)]; simp
  have hbox : w.heap.size < w2.heap.size := by omega
  clear hb2 hg1
  have HB := Lib.hid hB
  have HW2 := Lib.hid (hW.below hB)
  have Hn1 := Lib.hid (hW.far (b := g1) (by omega))
  have Hn0 := Lib.hid (hW.far (b := w.heap.size) (Nat.le_refl _))
  have Hp2 := Lib.hid (hslH.out.below hB)
  have Hblk := Lib.hid hblk
  have hbase2 := Nat.le_trans hbase hB.size
  clear hB hblk hp1H hslH
  go_wp2_with fail
  refine (bytes_any base g A c xs f ⟨some ⟨g1, 0, none⟩, p.ys.length + 5, p.ys⟩ w2 HW2.out (lent_sl Hblk.out) hx (by dsimp only; omega) (fun b o _ hA => by simp only [Option.some.injEq, Addr.mk.injEq] at hA; obtain ⟨rfl, _⟩ := hA; exact Hn1.out) hbase2).mono ?_
  rintro e w3 ⟨rfl, hpost⟩
  obtain ⟨A3, c3, hW3, hA3, hO3⟩ := hpost
  have hcell3 : w3.cell? ⟨w.heap.size, 2, none⟩ = some (.slice p.A p.ys.length p.c) := (hO3.cell (p := ⟨w.heap.size, 2, none⟩) hbox Hn0.out).trans hcell
  have hbox3 : w.heap.size < w3.heap.size := Nat.lt_of_lt_of_le hbox hO3.size
  have Hblk3 := Lib.hid (Hblk.out.only hO3 Hn1.out)
  have Hp3 := Lib.hid (Hp2.out.only hO3 hpsH.out)
  have Hpost := Lib.hid (show WrPost base g A w2 _ _ w3 from ⟨A3, c3, hW3, hA3, hO3⟩)
  clear hW3 hA3 hO3 hc2 hf2 hcell
  go_wp2_with fail
  refine (back_any p g1 _ Hp3.out hlen Hblk3.out).mono ?_
  rintro e w4 ⟨rfl, hO4⟩
  have HO4 := Lib.hid hO4
  clear hO4
  go_wp2_with fail
  go_ret
  exact ⟨rfl, WrPost.other HB.out Hpost.out HO4.out (by omega) hg1lt Hn1.out⟩

set_option maxRecDepth 100000 in
theorem put_text (base g : Nat) (A : Option Addr) (c : Nat) (xs : List UInt8) (f : Int) (x : Item) (w : World) (hW : Wr w base g A c xs f) (hx : xs.length ≤ 4194304) (hbase : base ≤ w.heap.size) (hp : Sl w x.p) (hok : x.ok)
    (hps : ∀ b o, 0 < x.p.ys.length → x.p.A = some ⟨b, o, none⟩ → ¬ wrS g A b) (hk : x.kind = 5) :
    Calls Try.prog 19 #[.pointer (some ⟨g, 0, none⟩), x.val] w fun e w' => e = .returned (.bool true) ∧ WrPost base g A w (putItem xs f x).1 (putItem xs f x).2 w' := by
  obtain ⟨kd, n, p⟩ := x
  change kd = 5 at hk
  subst hk
  have hok1 := hok.n1
  have hok2 := hok.n2
  have hlen := hok.len
  have hpsH := Lib.hid hps
  dsimp only at hok1 hok2 hlen
  have hres : putItem xs f ⟨5, n, p⟩ = putL xs f (formL p.ys.length ++ p.ys) := by
    unfold putItem
    simp
  rw [hres]
  clear hok hres hps
  have hp1 := fun o => hp.below ((Below.refl _ w).alloc (Nat.le_refl _) o)
  have hp1H := Lib.hid hp1
  have hslH := Lib.hid hp
  clear hp1 hp
  go_enter Try.func19, Try.ntmps19
  go_wp2_with fail
  refine (lend_any p _ (hp1H.out _) hlen).mono ?_
  rintro e w2 ⟨g1, rfl, hblk, hg1, hb2⟩
  obtain ⟨hc2, hf2⟩ := bcell hb2
  have hg1' : w.heap.size < g1 := by simp only [World.size_alloc] at hg1; omega
  have hg1lt := hblk.lt
  have hB : Below w.heap.size w w2 := ((Below.refl _ _).alloc (Nat.le_refl _) _).trans (hb2.mono (by simp))
  have hcell : w2.cell? ⟨w.heap.size, 2, none⟩ = some (.slice p.A p.ys.length p.c) := by rw [hc2 _ _ (by simp)]; simp
  have hbox : w.heap.size < w2.heap.size := by omega
  clear hb2 hg1
  have HB := Lib.hid hB
  have HW2 := Lib.hid (hW.below hB)
  have Hn1 := Lib.hid (hW.far (b := g1) (by omega))
  have Hn0 := Lib.hid (hW.far (b := w.heap.size) (Nat.le_refl _))
  have Hp2 := Lib.hid (hslH.out.below hB)
  have Hblk := Lib.hid hblk
  have hbase2 := Nat.le_trans hbase hB.size
  clear hB hblk hp1H hslH
  go_wp2_with (refine wpList_bytesStr rfl (.tmp 39) (A := p.A) (c := p.c) (ys := p.ys) rfl rfl Hp2.out.rv Try.underlying22 Try.underlying5 Try.underlying9 ?_)
  refine (text_any base g A c xs f ⟨p.ys.toArray⟩ w2 HW2.out hx (by show p.ys.toArray.size ≤ _; simp; omega) hbase2).mono ?_
  rintro e w3 ⟨rfl, hpost⟩
  obtain ⟨A3, c3, hW3, hA3, hO3⟩ := hpost
  have hcell3 : w3.cell? ⟨w.heap.size, 2, none⟩ = some (.slice p.A p.ys.length p.c) := (hO3.cell (p := ⟨w.heap.size, 2, none⟩) hbox Hn0.out).trans hcell
  have hbox3 : w.heap.size < w3.heap.size := Nat.lt_of_lt_of_le hbox hO3.size
  have Hblk3 := Lib.hid (Hblk.out.only hO3 Hn1.out)
  have Hp3 := Lib.hid (Hp2.out.only hO3 hpsH.out)
  have Hpost := Lib.hid (show WrPost base g A w2 _ _ w3 from ⟨A3, c3, hW3, hA3, hO3⟩)
  clear hW3 hA3 hO3 hc2 hf2 hcell
  go_wp2_with fail
  refine (back_any p g1 _ Hp3.out hlen Hblk3.out).mono ?_
  rintro e w4 ⟨rfl, hO4⟩
  have HO4 := Lib.hid hO4
  clear hO4
  go_wp2_with fail
  go_ret
  exact ⟨rfl, WrPost.other HB.out Hpost.out HO4.out (by omega) hg1lt Hn1.out⟩

set_option maxRecDepth 100000 in
theorem put_raw (base g : Nat) (A : Option Addr) (c : Nat) (xs : List UInt8) (f : Int) (x : Item) (w : World) (hW : Wr w base g A c xs f) (hx : xs.length ≤ 4194304) (hbase : base ≤ w.heap.size) (hp : Sl w x.p) (hok : x.ok)
    (hps : ∀ b o, 0 < x.p.ys.length → x.p.A = some ⟨b, o, none⟩ → ¬ wrS g A b) (hk : x.kind = 6) :
    Calls Try.prog 19 #[.pointer (some ⟨g, 0, none⟩), x.val] w fun e w' => e = .returned (.bool true) ∧ WrPost base g A w (putItem xs f x).1 (putItem xs f x).2 w' := by
  obtain ⟨kd, n, p⟩ := x
  change kd = 6 at hk
  subst hk
  have hok1 := hok.n1
  have hok2 := hok.n2
  have hlen := hok.len
  have hpsH := Lib.hid hps
  dsimp only at hok1 hok2 hlen
  have hres : putItem xs f ⟨6, n, p⟩ = putL xs f p.ys := by
    unfold putItem
    simp
  rw [hres]
  clear hok hres hps
  have hp1 := fun o => hp.below ((Below.refl _ w).alloc (Nat.le_refl _) o)
  have hp1H := Lib.hid hp1
  have hslH := Lib.hid hp
  clear hp1 hp
  go_enter Try.func19, Try.ntmps19
  go_wp2_with fail
  refine (lend_any p _ (hp1H.out _) hlen).mono ?_
  rintro e w2 ⟨g1, rfl, hblk, hg1, hb2⟩
  obtain ⟨hc2, hf2⟩ := bcell hb2
  have hg1' : w.heap.size < g1 := by simp only [World.size_alloc] at hg1; omega
  have hg1lt := hblk.lt
  have hB : Below w.heap.size w w2 := ((Below.refl _ _).alloc (Nat.le_refl _) _).trans (hb2.mono (by simp))
  have hcell : w2.cell? ⟨w.heap.size, 2, none⟩ = some (.slice p.A p.ys.length p.c) := by rw [hc2 _ _ (by simp)]; simp
  have hbox : w.heap.size < w2.heap.size := by omega
  clear hb2 hg1
  have HB := Lib.hid hB
  have HW2 := Lib.hid (hW.below hB)
  have Hn1 := Lib.hid (hW.far (b := g1) (by omega))
  have Hn0 := Lib.hid (hW.far (b := w.heap.size) (Nat.le_refl _))
  have Hp2 := Lib.hid (hslH.out.below hB)
  have Hblk := Lib.hid hblk
  have hbase2 := Nat.le_trans hbase hB.size
  clear hB hblk hp1H hslH
  go_wp2_with fail
  refine (raw_any base g A c xs f ⟨some ⟨g1, 0, none⟩, p.ys.length + 5, p.ys⟩ w2 HW2.out (lent_sl Hblk.out) hx (by dsimp only; omega) (fun b o _ hA => by simp only [Option.some.injEq, Addr.mk.injEq] at hA; obtain ⟨rfl, _⟩ := hA; exact Hn1.out) hbase2).mono ?_
  rintro e w3 ⟨rfl, hpost⟩
  obtain ⟨A3, c3, hW3, hA3, hO3⟩ := hpost
  have hcell3 : w3.cell? ⟨w.heap.size, 2, none⟩ = some (.slice p.A p.ys.length p.c) := (hO3.cell (p := ⟨w.heap.size, 2, none⟩) hbox Hn0.out).trans hcell
  have hbox3 : w.heap.size < w3.heap.size := Nat.lt_of_lt_of_le hbox hO3.size
  have Hblk3 := Lib.hid (Hblk.out.only hO3 Hn1.out)
  have Hp3 := Lib.hid (Hp2.out.only hO3 hpsH.out)
  have Hpost := Lib.hid (show WrPost base g A w2 _ _ w3 from ⟨A3, c3, hW3, hA3, hO3⟩)
  clear hW3 hA3 hO3 hc2 hf2 hcell
  go_wp2_with fail
  refine (back_any p g1 _ Hp3.out hlen Hblk3.out).mono ?_
  rintro e w4 ⟨rfl, hO4⟩
  have HO4 := Lib.hid hO4
  clear hO4
  go_wp2_with fail
  go_ret
  exact ⟨rfl, WrPost.other HB.out Hpost.out HO4.out (by omega) hg1lt Hn1.out⟩

set_option maxRecDepth 100000 in
theorem put_none (base g : Nat) (A : Option Addr) (c : Nat) (xs : List UInt8) (f : Int) (x : Item) (w : World) (hW : Wr w base g A c xs f) (_hx : xs.length ≤ 4194304) (hbase : base ≤ w.heap.size) (hp : Sl w x.p) (hok : x.ok)
    (hps : ∀ b o, 0 < x.p.ys.length → x.p.A = some ⟨b, o, none⟩ → ¬ wrS g A b) (hk : x.kind < 1 ∨ 6 < x.kind) :
    Calls Try.prog 19 #[.pointer (some ⟨g, 0, none⟩), x.val] w fun e w' => e = .returned (.bool true) ∧ WrPost base g A w (putItem xs f x).1 (putItem xs f x).2 w' := by
  obtain ⟨kd, n, p⟩ := x
  change kd < 1 ∨ 6 < kd at hk
  have hok1 := hok.n1
  have hok2 := hok.n2
  have hlen := hok.len
  have hpsH := Lib.hid hps
  dsimp only at hok1 hok2 hlen
  have hres : putItem xs f ⟨kd, n, p⟩ = (xs, f) := by
    unfold putItem
    simp only []; repeat rw [if_neg (by omega)]
  rw [hres]
  clear hok hres hps
  have k1 : (kd == 1) = false := by simp; omega
  have k2 : (kd == 2) = false := by simp; omega
  have k3 : (kd == 3) = false := by simp; omega
  have k4 : (kd == 4) = false := by simp; omega
  have k5 : (kd == 5) = false := by simp; omega
  have k6 : (kd == 6) = false := by simp; omega
  clear hk
  have hp1 := fun o => hp.below ((Below.refl _ w).alloc (Nat.le_refl _) o)
  have hp1H := Lib.hid hp1
  have hslH := Lib.hid hp
  clear hp1 hp
  go_enter Try.func19, Try.ntmps19
  go_wp2_with fail
  refine (lend_any p _ (hp1H.out _) hlen).mono ?_
  rintro e w2 ⟨g1, rfl, hblk, hg1, hb2⟩
  obtain ⟨hc2, hf2⟩ := bcell hb2
  have hg1' : w.heap.size < g1 := by simp only [World.size_alloc] at hg1; omega
  have hg1lt := hblk.lt
  have hB : Below w.heap.size w w2 := ((Below.refl _ _).alloc (Nat.le_refl _) _).trans (hb2.mono (by simp))
  have hcell : w2.cell? ⟨w.heap.size, 2, none⟩ = some (.slice p.A p.ys.length p.c) := by rw [hc2 _ _ (by simp)]; simp
  have hbox : w.heap.size < w2.heap.size := by omega
  clear hb2 hg1
  have HB := Lib.hid hB
  have HW2 := Lib.hid (hW.below hB)
  have Hn1 := Lib.hid (hW.far (b := g1) (by omega))
  have Hn0 := Lib.hid (hW.far (b := w.heap.size) (Nat.le_refl _))
  have Hp2 := Lib.hid (hslH.out.below hB)
  have Hblk := Lib.hid hblk
  have hbase2 := Nat.le_trans hbase hB.size
  clear hB hblk hp1H hslH
  have hbox3 := hbox
  have Hblk3 := Hblk
  have Hp3 := Hp2
  have Hpost := Lib.hid HW2.out.refl_post
  go_wp2_with fail
  refine (back_any p g1 _ Hp3.out hlen Hblk3.out).mono ?_
  rintro e w4 ⟨rfl, hO4⟩
  have HO4 := Lib.hid hO4
  clear hO4
  go_wp2_with fail
  go_ret
  exact ⟨rfl, WrPost.other HB.out Hpost.out HO4.out (by omega) hg1lt Hn1.out⟩

theorem put_any (base g : Nat) (A : Option Addr) (c : Nat) (xs : List UInt8) (f : Int) (x : Item) (w : World) (hW : Wr w base g A c xs f) (hx : xs.length ≤ 4194304) (hbase : base ≤ w.heap.size) (hp : Sl w x.p) (hok : x.ok)
    (hps : ∀ b o, 0 < x.p.ys.length → x.p.A = some ⟨b, o, none⟩ → ¬ wrS g A b) :
    Calls Try.prog 19 #[.pointer (some ⟨g, 0, none⟩), x.val] w fun e w' => e = .returned (.bool true) ∧ WrPost base g A w (putItem xs f x).1 (putItem xs f x).2 w' := by
  by_cases h1 : x.kind = 1
  · exact put_num base g A c xs f x w hW hx hbase hp hok hps h1
  by_cases h2 : x.kind = 2
  · exact put_int base g A c xs f x w hW hx hbase hp hok hps h2
  by_cases h3 : x.kind = 3
  · exact put_bool base g A c xs f x w hW hx hbase hp hok hps h3
  by_cases h4 : x.kind = 4
  · exact put_bytes base g A c xs f x w hW hx hbase hp hok hps h4
  by_cases h5 : x.kind = 5
  · exact put_text base g A c xs f x w hW hx hbase hp hok hps h5
  by_cases h6 : x.kind = 6
  · exact put_raw base g A c xs f x w hW hx hbase hp hok hps h6
  · exact put_none base g A c xs f x w hW hx hbase hp hok hps (by omega)
end Go.Proofs.Ytefaapcekbgjoaa
