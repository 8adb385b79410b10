/- The reference's Reader: Left, Read of a number, Read of an int. -/
import Derived.Test.YtmmdkpnoncnjnaaRfR
import Derived.Test.YtmmdkpnoncnjnaaStoreB
namespace Go.Proofs.Ytmmdkpnoncnjnaa
open Go.RowKit

theorem rfLeft_any (g c at_ : Nat) (A : Option Addr) (bs : List UInt8) (f : Int) (w : World) (h : RR w g A c bs at_ f) (hl : bs.length ≤ 140737488351232) :
    Calls Try.prog 48 #[.pointer (some ⟨g, 0, none⟩)] w fun e w' => e = .returned (.int .i64 ((bs.length - at_ : Nat) : Int)) ∧ ∃ m, w' = w.drewN m := by
  have h0 := h.c0
  have h1 := h.c1
  have hgl := h.blk.lt
  have hle := h.le
  have e0 : ((bs.length - at_ : Nat) : Int) = (bs.length : Int) - (at_ : Int) := by omega
  rw [e0]
  clear h e0
  go_enter Try.func48, Try.ntmps48
  go_wp2_with fail
  go_quiet (fail)
  go_wp2_with fail
  go_ret
  exact ⟨by go_num, _, rfl⟩
def itemV (kd n : Int) : Value := .agg #[.int .i64 kd, .int .i64 n, .slice none 0 0]
/-- What Read answers of a number. -/
def RRead (w : World) (g : Nat) (A : Option Addr) (c : Nat) (bs : List UInt8) (at_ : Nat) (kd : Int) (R : Except Int (Int × Nat)) (e : Ending) (w' : World) : Prop :=
  (∃ n a2, R = .ok (n, a2) ∧ e = .returned (itemV kd n) ∧ RR w' g A c bs a2 0 ∧ Only (fun b => b = g) w w') ∨
    (∃ f, R = .error f ∧ e = .returned (itemV kd 0) ∧ RR w' g A c bs at_ f ∧ Only (fun b => b = g) w w')
def stepN : Except Int (Nat × Nat) → Nat → Except Int (Int × Nat)
  | .ok (u, k), a => .ok ((u : Int), a + k)
  | .error f, _ => .error f
def stepI : Except Int (Nat × Nat) → Nat → Except Int (Int × Nat)
  | .ok (u, k), a => .ok (unfoldN u, a + k)
  | .error f, _ => .error f
theorem size_item : (Try.prog.info? 79).map (·.size) = some 3 := by kernel_rfl
set_option maxRecDepth 100000 in
theorem rfReadN_any (g c at_ : Nat) (A : Option Addr) (bs : List UInt8) (w : World) (h : RR w g A c bs at_ 0) (hl : bs.length ≤ 140737488351232) :
    Calls Try.prog 49 #[.pointer (some ⟨g, 0, none⟩), .int .i64 1, .int .i64 0] w (RRead w g A c bs at_ 1 (stepN (rNumL bs at_) at_)) := by
  have hgl := h.blk.lt
  have H := Lib.hid h
  clear h
  go_enter Try.func49, Try.ntmps49
  go_wp2_with fail
  obtain ⟨w1, hw1⟩ : ∃ w1, w1 = (w.alloc (.cells #[.int .i64 0, .int .i64 0, .slice none 0 0] 79)).alloc (.cells #[.int .i64 1, .int .i64 0, .slice none 0 0] 79) := ⟨_, rfl⟩
  rw [← hw1]
  have hb1 : Below w.heap.size w w1 := by rw [hw1]; exact ((Below.refl _ _).alloc (Nat.le_refl _) _).alloc (by simp) _
  have hX1 : Blk w1 (w.heap.size + 1) 79 #[.int .i64 1, .int .i64 0, .slice none 0 0] := by
    rw [hw1]
    have h := Blk.new (w.alloc (.cells #[.int .i64 0, .int .i64 0, .slice none 0 0] 79)) 79 #[.int .i64 1, .int .i64 0, .slice none 0 0]
    rw [World.size_alloc] at h
    exact h
  have hY1 : Blk w1 w.heap.size 79 #[.int .i64 0, .int .i64 0, .slice none 0 0] := by rw [hw1]; exact (Blk.new w _ _).alloc _
  obtain ⟨R, hR⟩ : ∃ R, R = rNumL bs at_ := ⟨_, rfl⟩
  have hn := rfNum_any g c at_ A bs w1 (H.out.below hb1) hl
  rw [← hR] at hn
  have HX1 := Lib.hid hX1
  have HY1 := Lib.hid hY1
  have Hn := Lib.hid hn
  have HR := Lib.hid hR
  have Hb1 := Lib.hid hb1
  clear hn hX1 hY1 hw1 hb1
  rw [← hR]
  clear hR
  refine Hn.out.mono ?_
  rintro e w2 (⟨u, k, hr, rfl, hR2, hO2⟩ | ⟨f, hr, rfl, hR2, hO2⟩)
  · have hX2 := HX1.out.only hO2 (by omega)
    have hY2 := HY1.out.only hO2 (by omega)
    have x0 : w2.cell? ⟨w.heap.size + 1, 0, none⟩ = some (.int .i64 1) := hX2.cell 0
    have x1 : w2.cell? ⟨w.heap.size + 1, 1, none⟩ = some (.int .i64 0) := hX2.cell 1
    have x2 : w2.cell? ⟨w.heap.size + 1, 2, none⟩ = some (.slice none 0 0) := hX2.cell 2
    have xf1 := hX2.frozen 1
    have y0 : w2.cell? ⟨w.heap.size, 0, none⟩ = some (.int .i64 0) := hY2.cell 0
    have y1 : w2.cell? ⟨w.heap.size, 1, none⟩ = some (.int .i64 0) := hY2.cell 1
    have y2 : w2.cell? ⟨w.heap.size, 2, none⟩ = some (.slice none 0 0) := hY2.cell 2
    have yf0 := hY2.frozen 0
    have yf1 := hY2.frozen 1
    have yf2 := hY2.frozen 2
    have hxl := hX2.lt
    have hyl := hY2.lt
    have k1 := hR2.c1
    have kf := hR2.blk.frozen 1
    have kl := hR2.blk.lt
    have hgx : w.heap.size + 1 ≠ g := by omega
    have hgy : w.heap.size ≠ g := by omega
    have hlt := rNum_lt (HR.out ▸ hr)
    have HR2 := Lib.hid hR2
    have HO2 := Lib.hid hO2
    clear hX2 hY2 Hn hR2 hO2
    go_wp2_with fail
    have hres : stepN (rNumL bs at_) at_ = .ok ((u : Int), at_ + k) := by rw [← HR.out, hr]; rfl
    have hAx : bs ≠ [] → ∀ b o, A = some ⟨b, o, none⟩ → b ≠ w.heap.size + 1 := fun hn b o e => by have := H.out.lt hn b o e; omega
    have hAy : bs ≠ [] → ∀ b o, A = some ⟨b, o, none⟩ → b ≠ w.heap.size := fun hn b o e => by have := H.out.lt hn b o e; omega
    refine bodyPost_ret (v := itemV 1 (u : Int)) ?_ rfl (.inl ⟨(u : Int), at_ + k, hres, rfl, ?_, ?_⟩)
    · simp [results, Try.results49, go_sem, itemV, y0, y1, y2]
    · rw [← Int.natCast_add]
      exact ((((HR2.out.setFar ⟨w.heap.size + 1, 1, none⟩ hgx hAx _).setAt (at_ + k) hlt.2.2.1).setFar ⟨w.heap.size, 0, none⟩ hgy hAy _).setFar ⟨w.heap.size, 1, none⟩ hgy hAy _).setFar ⟨w.heap.size, 2, none⟩ hgy hAy _
    · exact ((((((Only.of_fresh (S := fun b => b = g) Hb1.out).trans HO2.out).setCell (p := ⟨w.heap.size + 1, 1, none⟩) (.inr (Nat.le_succ _)) _).setCell (p := ⟨g, 1, none⟩) (.inl rfl) _).setCell (p := ⟨w.heap.size, 0, none⟩) (.inr (Nat.le_refl _)) _).setCell (p := ⟨w.heap.size, 1, none⟩) (.inr (Nat.le_refl _)) _).setCell (p := ⟨w.heap.size, 2, none⟩) (.inr (Nat.le_refl _)) _
  · have hX2 := HX1.out.only hO2 (by omega)
    have hY2 := HY1.out.only hO2 (by omega)
    have x0 : w2.cell? ⟨w.heap.size + 1, 0, none⟩ = some (.int .i64 1) := hX2.cell 0
    have x1 : w2.cell? ⟨w.heap.size + 1, 1, none⟩ = some (.int .i64 0) := hX2.cell 1
    have x2 : w2.cell? ⟨w.heap.size + 1, 2, none⟩ = some (.slice none 0 0) := hX2.cell 2
    have xf1 := hX2.frozen 1
    have y0 : w2.cell? ⟨w.heap.size, 0, none⟩ = some (.int .i64 0) := hY2.cell 0
    have y1 : w2.cell? ⟨w.heap.size, 1, none⟩ = some (.int .i64 0) := hY2.cell 1
    have y2 : w2.cell? ⟨w.heap.size, 2, none⟩ = some (.slice none 0 0) := hY2.cell 2
    have yf0 := hY2.frozen 0
    have yf1 := hY2.frozen 1
    have yf2 := hY2.frozen 2
    have hxl := hX2.lt
    have hyl := hY2.lt
    have k1 := hR2.c1
    have kf := hR2.blk.frozen 1
    have kl := hR2.blk.lt
    have hgx : w.heap.size + 1 ≠ g := by omega
    have hgy : w.heap.size ≠ g := by omega
    have hle2 := hR2.le
    have HR2 := Lib.hid hR2
    have HO2 := Lib.hid hO2
    clear hX2 hY2 Hn hR2 hO2
    go_wp2_with fail
    have hres : stepN (rNumL bs at_) at_ = .error f := by rw [← HR.out, hr]; rfl
    have hAx : bs ≠ [] → ∀ b o, A = some ⟨b, o, none⟩ → b ≠ w.heap.size + 1 := fun hn b o e => by have := H.out.lt hn b o e; omega
    have hAy : bs ≠ [] → ∀ b o, A = some ⟨b, o, none⟩ → b ≠ w.heap.size := fun hn b o e => by have := H.out.lt hn b o e; omega
    refine bodyPost_ret (v := itemV 1 0) ?_ rfl (.inr ⟨f, hres, rfl, ?_, ?_⟩)
    · simp [results, Try.results49, go_sem, itemV, y0, y1, y2]
    · exact ((((HR2.out.setFar ⟨w.heap.size + 1, 1, none⟩ hgx hAx _).setAt at_ hle2).setFar ⟨w.heap.size, 0, none⟩ hgy hAy _).setFar ⟨w.heap.size, 1, none⟩ hgy hAy _).setFar ⟨w.heap.size, 2, none⟩ hgy hAy _
    · exact ((((((Only.of_fresh (S := fun b => b = g) Hb1.out).trans HO2.out).setCell (p := ⟨w.heap.size + 1, 1, none⟩) (.inr (Nat.le_succ _)) _).setCell (p := ⟨g, 1, none⟩) (.inl rfl) _).setCell (p := ⟨w.heap.size, 0, none⟩) (.inr (Nat.le_refl _)) _).setCell (p := ⟨w.heap.size, 1, none⟩) (.inr (Nat.le_refl _)) _).setCell (p := ⟨w.heap.size, 2, none⟩) (.inr (Nat.le_refl _)) _
theorem and_one64 (u : Nat) (h : u < 18446744073709551616) : bits .and .u64 (u : Int) 1 = ((u % 2 : Nat) : Int) := by
  have h1 : bits .and .u64 (u : Int) 1 = IntKind.u64.wrap (((BitVec.ofInt 64 (u : Int)) &&& (BitVec.ofInt 64 1)).toNat : Int) := rfl
  rw [h1, BitVec.ofInt_natCast, show BitVec.ofInt 64 1 = BitVec.ofNat 64 1 from rfl, BitVec.toNat_and, BitVec.toNat_ofNat, BitVec.toNat_ofNat, Nat.mod_eq_of_lt (by omega), Nat.mod_eq_of_lt (by omega), Nat.and_one_is_mod, IntKind.wrap_u64]
  omega
set_option maxRecDepth 100000 in
theorem rfReadI_any (g c at_ : Nat) (A : Option Addr) (bs : List UInt8) (w : World) (h : RR w g A c bs at_ 0) (hl : bs.length ≤ 140737488351232) :
    Calls Try.prog 49 #[.pointer (some ⟨g, 0, none⟩), .int .i64 2, .int .i64 0] w (RRead w g A c bs at_ 2 (stepI (numberL bs at_) at_)) := by
  have hgl := h.blk.lt
  have H := Lib.hid h
  clear h
  go_enter Try.func49, Try.ntmps49
  go_wp2_with fail
  obtain ⟨w1, hw1⟩ : ∃ w1, w1 = (w.alloc (.cells #[.int .i64 0, .int .i64 0, .slice none 0 0] 79)).alloc (.cells #[.int .i64 2, .int .i64 0, .slice none 0 0] 79) := ⟨_, rfl⟩
  rw [← hw1]
  have hb1 : Below w.heap.size w w1 := by rw [hw1]; exact ((Below.refl _ _).alloc (Nat.le_refl _) _).alloc (by simp) _
  have hX1 : Blk w1 (w.heap.size + 1) 79 #[.int .i64 2, .int .i64 0, .slice none 0 0] := by
    rw [hw1]
    have h := Blk.new (w.alloc (.cells #[.int .i64 0, .int .i64 0, .slice none 0 0] 79)) 79 #[.int .i64 2, .int .i64 0, .slice none 0 0]
    rw [World.size_alloc] at h
    exact h
  have hY1 : Blk w1 w.heap.size 79 #[.int .i64 0, .int .i64 0, .slice none 0 0] := by rw [hw1]; exact (Blk.new w _ _).alloc _
  obtain ⟨R, hR⟩ : ∃ R, R = numberL bs at_ := ⟨_, rfl⟩
  have hn := rfNumber_any g c at_ A bs w1 (H.out.below hb1) hl
  rw [← hR] at hn
  have HX1 := Lib.hid hX1
  have HY1 := Lib.hid hY1
  have Hn := Lib.hid hn
  have HR := Lib.hid hR
  have Hb1 := Lib.hid hb1
  clear hn hX1 hY1 hw1 hb1
  rw [← hR]
  clear hR
  refine Hn.out.mono ?_
  rintro e w2 (⟨u, k, hr, rfl, hR2, hO2⟩ | ⟨f, hr, rfl, hR2, hO2⟩)
  · have hX2 := HX1.out.only hO2 (by omega)
    have hY2 := HY1.out.only hO2 (by omega)
    have x0 : w2.cell? ⟨w.heap.size + 1, 0, none⟩ = some (.int .i64 2) := hX2.cell 0
    have x1 : w2.cell? ⟨w.heap.size + 1, 1, none⟩ = some (.int .i64 0) := hX2.cell 1
    have x2 : w2.cell? ⟨w.heap.size + 1, 2, none⟩ = some (.slice none 0 0) := hX2.cell 2
    have xf1 := hX2.frozen 1
    have y0 : w2.cell? ⟨w.heap.size, 0, none⟩ = some (.int .i64 0) := hY2.cell 0
    have y1 : w2.cell? ⟨w.heap.size, 1, none⟩ = some (.int .i64 0) := hY2.cell 1
    have y2 : w2.cell? ⟨w.heap.size, 2, none⟩ = some (.slice none 0 0) := hY2.cell 2
    have yf0 := hY2.frozen 0
    have yf1 := hY2.frozen 1
    have yf2 := hY2.frozen 2
    have hxl := hX2.lt
    have hyl := hY2.lt
    have k1 := hR2.c1
    have kf := hR2.blk.frozen 1
    have kl := hR2.blk.lt
    have hgx : w.heap.size + 1 ≠ g := by omega
    have hgy : w.heap.size ≠ g := by omega
    have hlt := number_lt (HR.out ▸ hr)
    have HR2 := Lib.hid hR2
    have HO2 := Lib.hid hO2
    clear hX2 hY2 Hn hR2 hO2
    have hres : stepI (numberL bs at_) at_ = .ok (unfoldN u, at_ + k) := by rw [← HR.out, hr]; rfl
    have hAx : bs ≠ [] → ∀ b o, A = some ⟨b, o, none⟩ → b ≠ w.heap.size + 1 := fun hn b o e => by have := H.out.lt hn b o e; omega
    have hAy : bs ≠ [] → ∀ b o, A = some ⟨b, o, none⟩ → b ≠ w.heap.size := fun hn b o e => by have := H.out.lt hn b o e; omega
    have hband : bits .and .u64 (u : Int) 1 = ((u % 2 : Nat) : Int) := and_one64 u hlt.1
    obtain ⟨hu64, hk1, hak⟩ := hlt
    have Hres := Lib.hid hres
    clear hres
    by_cases hp : u % 2 = 0
    · have g1 : ¬ ((u % 2 : Nat) : Int) = 1 := by omega
      have e1 : unfoldN u = (u : Int) / 2 := by unfold unfoldN; rw [if_pos hp]; omega
      rw [hp] at hband
      go_wp2_with fail
      refine bodyPost_ret (v := itemV 2 (unfoldN u)) ?_ rfl (.inl ⟨unfoldN u, at_ + k, Hres.out, rfl, ?_, ?_⟩)
      · rw [e1]
        simp [results, Try.results49, go_sem, itemV, y0, y1, y2]
      · rw [← Int.natCast_add]
        exact ((((HR2.out.setFar ⟨w.heap.size + 1, 1, none⟩ hgx hAx _).setAt (at_ + k) hak).setFar ⟨w.heap.size, 0, none⟩ hgy hAy _).setFar ⟨w.heap.size, 1, none⟩ hgy hAy _).setFar ⟨w.heap.size, 2, none⟩ hgy hAy _
      · exact ((((((Only.of_fresh (S := fun b => b = g) Hb1.out).trans HO2.out).setCell (p := ⟨w.heap.size + 1, 1, none⟩) (.inr (Nat.le_succ _)) _).setCell (p := ⟨g, 1, none⟩) (.inl rfl) _).setCell (p := ⟨w.heap.size, 0, none⟩) (.inr (Nat.le_refl _)) _).setCell (p := ⟨w.heap.size, 1, none⟩) (.inr (Nat.le_refl _)) _).setCell (p := ⟨w.heap.size, 2, none⟩) (.inr (Nat.le_refl _)) _
    · have g1 : u % 2 = 1 := by omega
      rw [g1] at hband
      have e1 : unfoldN u = 0 - (u : Int) / 2 - 1 := by unfold unfoldN; rw [if_neg hp]; omega
      go_wp2_with fail
      refine bodyPost_ret (v := itemV 2 (unfoldN u)) ?_ rfl (.inl ⟨unfoldN u, at_ + k, Hres.out, rfl, ?_, ?_⟩)
      · rw [e1]
        simp [results, Try.results49, go_sem, itemV, y0, y1, y2]
      · rw [← Int.natCast_add]
        exact (((((HR2.out.setFar ⟨w.heap.size + 1, 1, none⟩ hgx hAx _).setFar ⟨w.heap.size + 1, 1, none⟩ hgx hAx _).setAt (at_ + k) hak).setFar ⟨w.heap.size, 0, none⟩ hgy hAy _).setFar ⟨w.heap.size, 1, none⟩ hgy hAy _).setFar ⟨w.heap.size, 2, none⟩ hgy hAy _
      · exact (((((((Only.of_fresh (S := fun b => b = g) Hb1.out).trans HO2.out).setCell (p := ⟨w.heap.size + 1, 1, none⟩) (.inr (Nat.le_succ _)) _).setCell (p := ⟨w.heap.size + 1, 1, none⟩) (.inr (Nat.le_succ _)) _).setCell (p := ⟨g, 1, none⟩) (.inl rfl) _).setCell (p := ⟨w.heap.size, 0, none⟩) (.inr (Nat.le_refl _)) _).setCell (p := ⟨w.heap.size, 1, none⟩) (.inr (Nat.le_refl _)) _).setCell (p := ⟨w.heap.size, 2, none⟩) (.inr (Nat.le_refl _)) _
  · have hX2 := HX1.out.only hO2 (by omega)
    have hY2 := HY1.out.only hO2 (by omega)
    have x0 : w2.cell? ⟨w.heap.size + 1, 0, none⟩ = some (.int .i64 2) := hX2.cell 0
    have x1 : w2.cell? ⟨w.heap.size + 1, 1, none⟩ = some (.int .i64 0) := hX2.cell 1
    have x2 : w2.cell? ⟨w.heap.size + 1, 2, none⟩ = some (.slice none 0 0) := hX2.cell 2
    have xf1 := hX2.frozen 1
    have y0 : w2.cell? ⟨w.heap.size, 0, none⟩ = some (.int .i64 0) := hY2.cell 0
    have y1 : w2.cell? ⟨w.heap.size, 1, none⟩ = some (.int .i64 0) := hY2.cell 1
    have y2 : w2.cell? ⟨w.heap.size, 2, none⟩ = some (.slice none 0 0) := hY2.cell 2
    have yf0 := hY2.frozen 0
    have yf1 := hY2.frozen 1
    have yf2 := hY2.frozen 2
    have hxl := hX2.lt
    have hyl := hY2.lt
    have k1 := hR2.c1
    have kf := hR2.blk.frozen 1
    have kl := hR2.blk.lt
    have hgx : w.heap.size + 1 ≠ g := by omega
    have hgy : w.heap.size ≠ g := by omega
    have hle2 := hR2.le
    have HR2 := Lib.hid hR2
    have HO2 := Lib.hid hO2
    clear hX2 hY2 Hn hR2 hO2
    go_wp2_with fail
    have hres : stepI (numberL bs at_) at_ = .error f := by rw [← HR.out, hr]; rfl
    have hAx : bs ≠ [] → ∀ b o, A = some ⟨b, o, none⟩ → b ≠ w.heap.size + 1 := fun hn b o e => by have := H.out.lt hn b o e; omega
    have hAy : bs ≠ [] → ∀ b o, A = some ⟨b, o, none⟩ → b ≠ w.heap.size := fun hn b o e => by have := H.out.lt hn b o e; omega
    refine bodyPost_ret (v := itemV 2 0) ?_ rfl (.inr ⟨f, hres, rfl, ?_, ?_⟩)
    · simp [results, Try.results49, go_sem, itemV, y0, y1, y2]
    · exact ((((HR2.out.setFar ⟨w.heap.size + 1, 1, none⟩ hgx hAx _).setAt at_ hle2).setFar ⟨w.heap.size, 0, none⟩ hgy hAy _).setFar ⟨w.heap.size, 1, none⟩ hgy hAy _).setFar ⟨w.heap.size, 2, none⟩ hgy hAy _
    · exact ((((((Only.of_fresh (S := fun b => b = g) Hb1.out).trans HO2.out).setCell (p := ⟨w.heap.size + 1, 1, none⟩) (.inr (Nat.le_succ _)) _).setCell (p := ⟨g, 1, none⟩) (.inl rfl) _).setCell (p := ⟨w.heap.size, 0, none⟩) (.inr (Nat.le_refl _)) _).setCell (p := ⟨w.heap.size, 1, none⟩) (.inr (Nat.le_refl _)) _).setCell (p := ⟨w.heap.size, 2, none⟩) (.inr (Nat.le_refl _)) _
end Go.Proofs.Ytmmdkpnoncnjnaa
