/- Several texts in one: RfR RfRd. -/
import Derived.Test.YtefaapcekbgjoaaRdK
import Derived.Test.YtefaapcekbgjoaaRefK
import Derived.Test.YtefaapcekbgjoaaRegK
namespace Go.Proofs.Ytefaapcekbgjoaa

section
/- The reference's Reader: number, num, Left. -/
open Go.RowKit

/-- A reference's Reader: where it stands, its fault. -/
structure RR (w : World) (g : Nat) (A : Option Addr) (c : Nat) (bs : List UInt8) (at_ : Nat) (f : Int) : Prop where
  blk : Blk w g 116 #[.slice A bs.length c, .int .i64 (at_ : Int), .int .i64 f]
  rv : RV w A (bs.map bv)
  ne : bs ≠ [] → ∀ b o, A = some ⟨b, o, none⟩ → b ≠ g
  le : at_ ≤ bs.length
section
variable {w w' : World} {g c at_ : Nat} {A : Option Addr} {bs : List UInt8} {f : Int}
theorem RR.c0 (h : RR w g A c bs at_ f) : w.cell? ⟨g, 0, none⟩ = some (.slice A bs.length c) := by rw [h.blk.cell]; rfl
theorem RR.c1 (h : RR w g A c bs at_ f) : w.cell? ⟨g, 1, none⟩ = some (.int .i64 (at_ : Int)) := by rw [h.blk.cell]; rfl
theorem RR.c2 (h : RR w g A c bs at_ f) : w.cell? ⟨g, 2, none⟩ = some (.int .i64 f) := by rw [h.blk.cell]; rfl
theorem RR.below (h : RR w g A c bs at_ f) (hb : Below w.heap.size w w') : RR w' g A c bs at_ f := ⟨h.blk.below hb h.blk.lt, h.rv.below hb, h.ne, h.le⟩
theorem RR.drewN (h : RR w g A c bs at_ f) (n : Nat) : RR (w.drewN n) g A c bs at_ f := h.below (below_drewN (Below.refl _ _) n)
theorem RR.only {S : Nat → Prop} (h : RR w g A c bs at_ f) (ho : Only S w w') (hg : ¬ S g) (hA : bs ≠ [] → ∀ b o, A = some ⟨b, o, none⟩ → ¬ S b) : RR w' g A c bs at_ f :=
  ⟨h.blk.only ho hg, h.rv.only ho fun hn b o e => hA (fun h0 => hn (by rw [h0]; rfl)) b o e, h.ne, h.le⟩
theorem RR.lt (h : RR w g A c bs at_ f) (hn : bs ≠ []) : ∀ b o, A = some ⟨b, o, none⟩ → b < w.heap.size := by
  obtain ⟨b, off, rfl, hb, -⟩ := h.rv.at_ (by rw [List.length_map]; exact List.length_pos_iff.2 hn)
  intro b2 o e
  injection e with e; injection e with e1; omega
theorem RR.setFar (h : RR w g A c bs at_ f) (p : Addr) (hp : p.block ≠ g) (hA : bs ≠ [] → ∀ b o, A = some ⟨b, o, none⟩ → b ≠ p.block) (v : Value) : RR (w.setCell p v) g A c bs at_ f :=
  h.only (S := fun b => b = p.block) (Only.setCell (S := fun b => b = p.block) (p := p) (Only.refl _ w) (.inl rfl) v) (fun e => hp e.symm) hA
theorem RR.setF (h : RR w g A c bs at_ f) (k : Int) : RR (w.setCell ⟨g, 2, none⟩ (.int .i64 k)) g A c bs at_ k :=
  ⟨Blk.setL (cs := [.slice A bs.length c, .int .i64 (at_ : Int), .int .i64 f]) h.blk 2 _, h.rv.only ((Only.refl (fun b => b = g) w).setCell (p := ⟨g, 2, none⟩) (.inl rfl) _) fun hn b o e => h.ne (fun h0 => hn (by rw [h0]; rfl)) b o e, h.ne, h.le⟩
theorem RR.setAt (h : RR w g A c bs at_ f) (k : Nat) (hk : k ≤ bs.length) : RR (w.setCell ⟨g, 1, none⟩ (.int .i64 (k : Int))) g A c bs k f :=
  ⟨Blk.setL (cs := [.slice A bs.length c, .int .i64 (at_ : Int), .int .i64 f]) h.blk 1 _, h.rv.only ((Only.refl (fun b => b = g) w).setCell (p := ⟨g, 1, none⟩) (.inl rfl) _) fun hn b o e => h.ne (fun h0 => hn (by rw [h0]; rfl)) b o e, h.ne, hk⟩
theorem RR.byte (h : RR w g A c bs at_ f) (hn : 0 < bs.length) : ∃ b off, A = some ⟨b, off, none⟩ ∧ b < w.heap.size ∧ ∀ j, j < bs.length → w.cell? ⟨b, off + j, none⟩ = some (.int .u8 ((bs.getD j 0).toNat : Int)) := by
  obtain ⟨b, off, hA, hb, hc⟩ := h.rv.at_ (by simpa using hn)
  refine ⟨b, off, hA, hb, fun j hj => hc j _ ?_⟩
  rw [List.getElem?_map, List.getElem?_eq_getElem hj, List.getD_eq_getElem?_getD, List.getElem?_eq_getElem hj]
  rfl
end
/-- A number that was read, or its fault (told by none). -/
def RNum (w : World) (g : Nat) (A : Option Addr) (c : Nat) (bs : List UInt8) (at_ : Nat) (K : IntKind) (R : Except Int (Nat × Nat)) (e : Ending) (w' : World) : Prop :=
  (∃ u k, R = .ok (u, k) ∧ e = .returned (.tuple #[.int K (u : Int), .int .i64 (k : Int)]) ∧ RR w' g A c bs at_ 0 ∧ Only (fun b => b = g) w w') ∨
    (∃ f, R = .error f ∧ e = .returned (.tuple #[.int K 0, .int .i64 0]) ∧ RR w' g A c bs at_ f ∧ Only (fun b => b = g) w w')
set_option maxRecDepth 100000 in
set_option maxHeartbeats 1000000 in
theorem rfNumber_any (g c at_ : Nat) (A : Option Addr) (bs : List UInt8) (w : World) (h : RR w g A c bs at_ 0) (hl : bs.length ≤ 140737488351232) :
    Calls Try.prog 84 #[.pointer (some ⟨g, 0, none⟩)] w (RNum w g A c bs at_ .u64 (numberL bs at_)) := by
  have h0 := h.c0
  have h1 := h.c1
  have h2 := h.c2
  have f2 := h.blk.frozen 2
  have hgl := h.blk.lt
  have hle := h.le
  have H := Lib.hid h
  by_cases hd : bs.length < at_ + 1
  · have e : numberL bs at_ = .error 11 := by unfold numberL; rw [if_pos hd]
    rw [e]
    have g1 : (bs.length : Int) ≤ (at_ : Int) := by omega
    clear h
    go_enter Try.func84, Try.ntmps84
    go_wp2_with fail
    go_quiet (fail)
    go_wp2_with fail
    go_ret2
    exact .inr ⟨11, rfl, rfl, (H.out.drewN _).setF 11, ((Only.refl (fun b => b = g) w).drewN _).setCell (p := ⟨g, 2, none⟩) (.inl rfl) _⟩
  have g1 : ¬ (bs.length : Int) ≤ (at_ : Int) := by omega
  obtain ⟨x, hx⟩ : ∃ x, x = (bs.getD at_ 0).toNat := ⟨_, rfl⟩
  have hx8 : x < 256 := by rw [hx]; exact UInt8.toNat_lt _
  obtain ⟨b, off, hA, hb, hc⟩ := h.byte (by omega)
  have c0 := hc at_ (by omega)
  rw [← hx] at c0
  subst hA
  have Hc := Lib.hid hc
  clear hc
  by_cases hs : x < 248
  · have e : numberL bs at_ = .ok (x, 1) := by unfold numberL; rw [if_neg hd, ← hx, if_pos hs]
    rw [e]
    have g2 : (x : Int) ≤ 247 := by omega
    have g3 : ((x : Int) % 18446744073709551616) = (x : Int) := by omega
    clear h hx
    go_enter Try.func84, Try.ntmps84
    go_wp2_with fail
    go_quiet (fail)
    go_wp2_with fail
    go_quiet (fail)
    go_wp2_with fail
    go_ret2
    exact .inl ⟨x, 1, rfl, rfl, H.out.drewN _, (Only.refl (fun b => b = g) w).drewN _⟩
  obtain ⟨k, hk⟩ : ∃ k, k = x - 247 := ⟨_, rfl⟩
  have hsub : (x : Int) - 247 = (k : Int) := by omega
  have hk8 : 1 ≤ k ∧ k ≤ 8 := by omega
  have g0 : ¬ (x : Int) ≤ 247 := by omega
  by_cases h3 : bs.length < at_ + 1 + k
  · have e : numberL bs at_ = .error 11 := by unfold numberL; rw [if_neg hd, ← hx, if_neg hs, ← hk, if_pos h3]
    rw [e]
    have g2 : (bs.length : Int) - (at_ : Int) - 1 < (k : Int) := by omega
    clear h hx hk
    go_enter Try.func84, Try.ntmps84
    go_wp2_with fail
    go_quiet (fail)
    go_wp2_with fail
    go_quiet (fail)
    go_wp2_with fail
    go_quiet (fail)
    go_wp2_with fail
    go_ret2
    exact .inr ⟨11, rfl, rfl, (H.out.drewN _).setF 11, ((Only.refl (fun b => b = g) w).drewN _).setCell (p := ⟨g, 2, none⟩) (.inl rfl) _⟩
  have g2 : ¬ (bs.length : Int) - (at_ : Int) - 1 < (k : Int) := by omega
  obtain ⟨y, hy⟩ : ∃ y, y = (bs.getD (at_ + 1) 0).toNat := ⟨_, rfl⟩
  obtain ⟨l, hl0⟩ : ∃ l, l = (bs.drop (at_ + 1)).take k := ⟨_, rfl⟩
  have hll : l.length = k := by rw [hl0, List.length_take, List.length_drop]; omega
  have hl00 : (l.getD 0 0).toNat = y := by
    rw [hl0, hy, List.getD_eq_getElem?_getD, List.getElem?_take, if_pos (by omega), List.getElem?_drop, List.getD_eq_getElem?_getD, Nat.add_zero]
  obtain ⟨u, hu⟩ : ∃ u, u = beNat l := ⟨_, rfl⟩
  have hu64 : u < 18446744073709551616 := by
    rw [hu]
    have h1 := beNat_lt l
    have h2 : 256 ^ l.length ≤ 256 ^ 8 := Nat.pow_le_pow_right (by omega) (by omega)
    have h3 : (256 : Nat) ^ 8 = 18446744073709551616 := by decide
    omega
  have hres : numberL bs at_ = if y = 0 ∨ u < 248 then .error 12 else .ok (u, 1 + k) := by
    unfold numberL; rw [if_neg hd, ← hx, if_neg hs, ← hk, if_neg h3, ← hy, ← hl0, ← hu]
  have hfl := form_len l (by omega) (by omega)
  rw [hl00, ← hu, hll] at hfl
  obtain ⟨R, hR⟩ : ∃ R, R = numberL bs at_ := ⟨_, rfl⟩
  rw [← hR]
  rw [hres] at hR
  have HR := Lib.hid hR
  have Hu := Lib.hid hu
  have Hl0 := Lib.hid hl0
  have Hfl := Lib.hid hfl
  clear h hres hu hl0 hR hx hk hy hl00 hfl
  go_enter Try.func84, Try.ntmps84
  go_wp2_with fail
  go_quiet (fail)
  go_wp2_with fail
  go_quiet (fail)
  go_wp2_with fail
  go_quiet (fail)
  go_wp2_with fail
  go_loopw [6, 7] (fun v i wr => ∃ j m : Nat, 1 ≤ j ∧ j ≤ k + 1 ∧ i = .int .i64 (j : Int) ∧ v = .int .u64 ((beNat (l.take (j - 1)) : Nat) : Int) ∧ wr = w.drewN m) (fun _ i _ => k + 1 - (intOf i).toNat)
  case atStart => exact ⟨1, _, by omega, by omega, rfl, rfl, by rw [World.drewN_drewN]⟩
  case round =>
    rename World => wr
    obtain ⟨j, m, hj1, hj, rfl, rfl, rfl⟩ := hrel
    obtain ⟨i, rfl⟩ : ∃ i, j = i + 1 := ⟨j - 1, by omega⟩
    rw [Nat.add_sub_cancel]
    by_cases hlt : i < k
    · have g3 : ((i + 1 : Nat) : Int) ≤ (k : Int) := by omega
      have cj := Hc.out (at_ + (i + 1)) (by omega)
      have hlj : l[i]'(by omega) = bs.getD (at_ + (i + 1)) 0 := by
        have : l[i]? = some (bs.getD (at_ + (i + 1)) 0) := by
          rw [Hl0.out, List.getElem?_take, if_pos hlt, List.getElem?_drop, List.getD_eq_getElem?_getD, show at_ + 1 + i = at_ + (i + 1) from by omega, List.getElem?_eq_getElem (by omega)]
          rfl
        rw [List.getElem?_eq_getElem (by omega)] at this
        injection this
      have hstep := beNat_take l i (by omega)
      rw [hlj] at hstep
      have hub : beNat (l.take i) < 72057594037927936 := by
        have h1 := beNat_lt (l.take i)
        have h2 : 256 ^ (l.take i).length ≤ 256 ^ 7 := Nat.pow_le_pow_right (by omega) (by rw [List.length_take]; omega)
        have h3 : (256 : Nat) ^ 7 = 72057594037927936 := by decide
        omega
      have hor := or_byte64 (beNat (l.take i)) (bs.getD (at_ + (i + 1)) 0) hub
      have hc8 := (bs.getD (at_ + (i + 1)) 0).toNat_lt
      have Hstep := Lib.hid hstep
      generalize (bs.getD (at_ + (i + 1)) 0).toNat = z at *
      generalize beNat (l.take i) = v at *
      have g4 : ((at_ : Int) + ((i + 1 : Nat) : Int)) = ((at_ + (i + 1) : Nat) : Int) := by omega
      have g5 : at_ + (i + 1) < bs.length := by omega
      clear hstep hlj
      go_wp2_with fail
      go_quiet (fail)
      go_wp2_with fail
      exact ⟨⟨i + 1 + 1, _, by omega, by omega, by go_num, by rw [Nat.add_sub_cancel, Hstep.out]; go_num, rfl⟩, by simp [intOf]; omega⟩
    · obtain rfl : i = k := by omega
      rw [List.take_of_length_le (by omega), ← Hu.out]
      have hform := refForm_any u (w.drewN m) hu64
      have Hform := Lib.hid hform
      clear hform
      go_wp2_with fail
      refine Hform.out.mono ?_
      rintro e w4 ⟨A4, c4, rfl, hown4, hb4⟩
      have hB4 : Below w.heap.size w w4 := (below_drewN (Below.refl _ _) m).trans hb4
      have hR4 := H.out.below hB4
      have k0 := hR4.c0
      have k2 := hR4.c2
      have kf := hR4.blk.frozen 2
      have kl := hR4.blk.lt
      have HR4 := Lib.hid hR4
      have HB4 := Lib.hid hB4
      generalize hfn : (formL u).length = fn at *
      clear hown4 hb4 hB4 hR4 Hform h0 h1 h2 f2 c0
      by_cases hy : y = 0 ∨ u < 248
      · have hR := HR.out
        rw [if_pos hy] at hR
        have g6 : ¬ (fn : Int) = 1 + (i : Int) := fun h => Hfl.out.1 (by omega) hy
        subst hR
        clear hy hfn
        go_wp2_with fail
        go_ret2
        exact .inr ⟨12, rfl, rfl, HR4.out.setF 12, (Only.of_fresh (S := fun b => b = g) HB4.out).setCell (p := ⟨g, 2, none⟩) (.inl rfl) _⟩
      · have hR := HR.out
        rw [if_neg hy] at hR
        have g6 : (fn : Int) = 1 + (i : Int) := by have := Hfl.out.2 hy; omega
        subst hR
        clear hy hfn
        go_wp2_with fail
        go_ret2
        exact .inl ⟨u, 1 + i, rfl, by go_simp, HR4.out, Only.of_fresh HB4.out⟩
set_option maxRecDepth 100000 in
theorem rfNum_any (g c at_ : Nat) (A : Option Addr) (bs : List UInt8) (w : World) (h : RR w g A c bs at_ 0) (hl : bs.length ≤ 140737488351232) :
    Calls Try.prog 83 #[.pointer (some ⟨g, 0, none⟩)] w (RNum w g A c bs at_ .i64 (rNumL bs at_)) := by
  obtain ⟨R, hR⟩ : ∃ R, R = rNumL bs at_ := ⟨_, rfl⟩
  have hn := rfNumber_any g c at_ A bs w h hl
  rw [← hR]
  have HR := Lib.hid hR
  have Hn := Lib.hid hn
  clear hR hn h
  go_enter Try.func83, Try.ntmps83
  go_wp2_with fail
  refine Hn.out.mono ?_
  rintro e w1 (⟨u, k, hr, rfl, hR1, hO1⟩ | ⟨f, hr, rfl, hR1, hO1⟩)
  · obtain ⟨hu, hk, -⟩ := number_lt hr
    have hgl := hR1.blk.lt
    have h2 := hR1.c2
    have f2 := hR1.blk.frozen 2
    have HR1 := Lib.hid hR1
    have HO1 := Lib.hid hO1
    by_cases hbig : u < 9223372036854775808
    · have e : R = .ok (u, k) := by rw [HR.out]; unfold rNumL; rw [hr]; dsimp only; rw [if_neg (by omega)]
      subst e
      clear hR1 hO1 hr Hn
      go_wp2_with fail
      go_ret2
      exact .inl ⟨u, k, rfl, rfl, HR1.out, HO1.out⟩
    · have e : R = .error 12 := by rw [HR.out]; unfold rNumL; rw [hr]; dsimp only; rw [if_pos (by omega)]
      subst e
      clear hR1 hO1 hr Hn
      go_wp2_with fail
      go_ret2
      exact .inr ⟨12, rfl, rfl, HR1.out.setF 12, HO1.out.setCell (p := ⟨g, 2, none⟩) (.inl rfl) _⟩
  · have e : R = .error f := by rw [HR.out]; unfold rNumL; rw [hr]
    subst e
    have HR1 := Lib.hid hR1
    have HO1 := Lib.hid hO1
    clear hR1 hO1 hr Hn
    go_wp2_with fail
    go_ret2
    exact .inr ⟨f, rfl, rfl, HR1.out, HO1.out⟩
end

section
/- The reference's Reader: Left, Read of a number, Read of an int. -/
open Go.RowKit

theorem rfLeft_any (g c at_ : Nat) (A : Option Addr) (bs : List UInt8) (f : Int) (w : World) (h : RR w g A c bs at_ f) (hl : bs.length ≤ 140737488351232) :
    Calls Try.prog 67 #[.pointer (some ⟨g, 0, none⟩)] w fun e w' => e = .returned (.int .i64 ((bs.length - at_ : Nat) : Int)) ∧ ∃ m, w' = w.drewN m := by
  have h0 := h.c0
  have h1 := h.c1
  have hgl := h.blk.lt
  have hle := h.le
  have e0 : ((bs.length - at_ : Nat) : Int) = (bs.length : Int) - (at_ : Int) := by omega
  rw [e0]
  clear h e0
  go_enter Try.func67, Try.ntmps67
  go_wp2_with fail
  go_quiet (fail)
  go_wp2_with fail
  go_ret
  exact ⟨by go_num, _, rfl⟩
def itemV (kd n : Int) : Value := .agg #[.int .i64 kd, .int .i64 n, .slice none 0 0]
/-- What Read answers of a number. -/
def RRead (w : World) (g : Nat) (A : Option Addr) (c : Nat) (bs : List UInt8) (at_ : Nat) (kd : Int) (R : Except Int (Int × Nat)) (e : Ending) (w' : World) : Prop :=
  (∃ n a2, R = .ok (n, a2) ∧ e = .returned (itemV kd n) ∧ RR w' g A c bs a2 0 ∧ Only (fun b => b = g) w w') ∨
    (∃ f, R = .error f ∧ e = .returned (itemV kd 0) ∧ RR w' g A c bs at_ f ∧ Only (fun b => b = g) w w')
def stepN : Except Int (Nat × Nat) → Nat → Except Int (Int × Nat)
  | .ok (u, k), a => .ok ((u : Int), a + k)
  | .error f, _ => .error f
def stepI : Except Int (Nat × Nat) → Nat → Except Int (Int × Nat)
  | .ok (u, k), a => .ok (unfoldN u, a + k)
  | .error f, _ => .error f
theorem size_item : (Try.prog.info? 30).map (·.size) = some 3 := by kernel_rfl
set_option maxRecDepth 100000 in
theorem rfReadN_any (g c at_ : Nat) (A : Option Addr) (bs : List UInt8) (w : World) (h : RR w g A c bs at_ 0) (hl : bs.length ≤ 140737488351232) :
    Calls Try.prog 79 #[.pointer (some ⟨g, 0, none⟩), .int .i64 1, .int .i64 0] w (RRead w g A c bs at_ 1 (stepN (rNumL bs at_) at_)) := by
  have hgl := h.blk.lt
  have H := Lib.hid h
  clear h
  go_enter Try.func79, Try.ntmps79
  go_wp2_with fail
  obtain ⟨w1, hw1⟩ : ∃ w1, w1 = (w.alloc (.cells #[.int .i64 0, .int .i64 0, .slice none 0 0] 30)).alloc (.cells #[.int .i64 1, .int .i64 0, .slice none 0 0] 30) := ⟨_, rfl⟩
  rw [← hw1]
  have hb1 : Below w.heap.size w w1 := by rw [hw1]; exact ((Below.refl _ _).alloc (Nat.le_refl _) _).alloc (by simp) _
  have hX1 : Blk w1 (w.heap.size + 1) 30 #[.int .i64 1, .int .i64 0, .slice none 0 0] := by
    rw [hw1]
    have h := Blk.new (w.alloc (.cells #[.int .i64 0, .int .i64 0, .slice none 0 0] 30)) 30 #[.int .i64 1, .int .i64 0, .slice none 0 0]
    rw [World.size_alloc] at h
    exact h
  have hY1 : Blk w1 w.heap.size 30 #[.int .i64 0, .int .i64 0, .slice none 0 0] := by rw [hw1]; exact (Blk.new w _ _).alloc _
  obtain ⟨R, hR⟩ : ∃ R, R = rNumL bs at_ := ⟨_, rfl⟩
  have hn := rfNum_any g c at_ A bs w1 (H.out.below hb1) hl
  rw [← hR] at hn
  have HX1 := Lib.hid hX1
  have HY1 := Lib.hid hY1
  have Hn := Lib.hid hn
  have HR := Lib.hid hR
  have Hb1 := Lib.hid hb1
  clear hn hX1 hY1 hw1 hb1
  rw [← hR]
  clear hR
  refine Hn.out.mono ?_
  rintro e w2 (⟨u, k, hr, rfl, hR2, hO2⟩ | ⟨f, hr, rfl, hR2, hO2⟩)
  · have hX2 := HX1.out.only hO2 (by omega)
    have hY2 := HY1.out.only hO2 (by omega)
    have x0 : w2.cell? ⟨w.heap.size + 1, 0, none⟩ = some (.int .i64 1) := hX2.cell 0
    have x1 : w2.cell? ⟨w.heap.size + 1, 1, none⟩ = some (.int .i64 0) := hX2.cell 1
    have x2 : w2.cell? ⟨w.heap.size + 1, 2, none⟩ = some (.slice none 0 0) := hX2.cell 2
    have xf1 := hX2.frozen 1
    have y0 : w2.cell? ⟨w.heap.size, 0, none⟩ = some (.int .i64 0) := hY2.cell 0
    have y1 : w2.cell? ⟨w.heap.size, 1, none⟩ = some (.int .i64 0) := hY2.cell 1
    have y2 : w2.cell? ⟨w.heap.size, 2, none⟩ = some (.slice none 0 0) := hY2.cell 2
    have yf0 := hY2.frozen 0
    have yf1 := hY2.frozen 1
    have yf2 := hY2.frozen 2
    have hxl := hX2.lt
    have hyl := hY2.lt
    have k1 := hR2.c1
    have kf := hR2.blk.frozen 1
    have kl := hR2.blk.lt
    have hgx : w.heap.size + 1 ≠ g := by omega
    have hgy : w.heap.size ≠ g := by omega
    have hlt := rNum_lt (HR.out ▸ hr)
    have HR2 := Lib.hid hR2
    have HO2 := Lib.hid hO2
    clear hX2 hY2 Hn hR2 hO2
    go_wp2_with fail
    have hres : stepN (rNumL bs at_) at_ = .ok ((u : Int), at_ + k) := by rw [← HR.out, hr]; rfl
    have hAx : bs ≠ [] → ∀ b o, A = some ⟨b, o, none⟩ → b ≠ w.heap.size + 1 := fun hn b o e => by have := H.out.lt hn b o e; omega
    have hAy : bs ≠ [] → ∀ b o, A = some ⟨b, o, none⟩ → b ≠ w.heap.size := fun hn b o e => by have := H.out.lt hn b o e; omega
    refine bodyPost_ret (v := itemV 1 (u : Int)) ?_ rfl (.inl ⟨(u : Int), at_ + k, hres, rfl, ?_, ?_⟩)
    · simp [results, Try.results79, go_sem, itemV, y0, y1, y2]
    · rw [← Int.natCast_add]
      exact ((((HR2.out.setFar ⟨w.heap.size + 1, 1, none⟩ hgx hAx _).setAt (at_ + k) hlt.2.2.1).setFar ⟨w.heap.size, 0, none⟩ hgy hAy _).setFar ⟨w.heap.size, 1, none⟩ hgy hAy _).setFar ⟨w.heap.size, 2, none⟩ hgy hAy _
    · exact ((((((Only.of_fresh (S := fun b => b = g) Hb1.out).trans HO2.out).setCell (p := ⟨w.heap.size + 1, 1, none⟩) (.inr (Nat.le_succ _)) _).setCell (p := ⟨g, 1, none⟩) (.inl rfl) _).setCell (p := ⟨w.heap.size, 0, none⟩) (.inr (Nat.le_refl _)) _).setCell (p := ⟨w.heap.size, 1, none⟩) (.inr (Nat.le_refl _)) _).setCell (p := ⟨w.heap.size, 2, none⟩) (.inr (Nat.le_refl _)) _
  · have hX2 := HX1.out.only hO2 (by omega)
    have hY2 := HY1.out.only hO2 (by omega)
    have x0 : w2.cell? ⟨w.heap.size + 1, 0, none⟩ = some (.int .i64 1) := hX2.cell 0
    have x1 : w2.cell? ⟨w.heap.size + 1, 1, none⟩ = some (.int .i64 0) := hX2.cell 1
    have x2 : w2.cell? ⟨w.heap.size + 1, 2, none⟩ = some (.slice none 0 0) := hX2.cell 2
    have xf1 := hX2.frozen 1
    have y0 : w2.cell? ⟨w.heap.size, 0, none⟩ = some (.int .i64 0) := hY2.cell 0
    have y1 : w2.cell? ⟨w.heap.size, 1, none⟩ = some (.int .i64 0) := hY2.cell 1
    have y2 : w2.cell? ⟨w.heap.size, 2, none⟩ = some (.slice none 0 0) := hY2.cell 2
    have yf0 := hY2.frozen 0
    have yf1 := hY2.frozen 1
    have yf2 := hY2.frozen 2
    have hxl := hX2.lt
    have hyl := hY2.lt
    have k1 := hR2.c1
    have kf := hR2.blk.frozen 1
    have kl := hR2.blk.lt
    have hgx : w.heap.size + 1 ≠ g := by omega
    have hgy : w.heap.size ≠ g := by omega
    have hle2 := hR2.le
    have HR2 := Lib.hid hR2
    have HO2 := Lib.hid hO2
    clear hX2 hY2 Hn hR2 hO2
    go_wp2_with fail
    have hres : stepN (rNumL bs at_) at_ = .error f := by rw [← HR.out, hr]; rfl
    have hAx : bs ≠ [] → ∀ b o, A = some ⟨b, o, none⟩ → b ≠ w.heap.size + 1 := fun hn b o e => by have := H.out.lt hn b o e; omega
    have hAy : bs ≠ [] → ∀ b o, A = some ⟨b, o, none⟩ → b ≠ w.heap.size := fun hn b o e => by have := H.out.lt hn b o e; omega
    refine bodyPost_ret (v := itemV 1 0) ?_ rfl (.inr ⟨f, hres, rfl, ?_, ?_⟩)
    · simp [results, Try.results79, go_sem, itemV, y0, y1, y2]
    · exact ((((HR2.out.setFar ⟨w.heap.size + 1, 1, none⟩ hgx hAx _).setAt at_ hle2).setFar ⟨w.heap.size, 0, none⟩ hgy hAy _).setFar ⟨w.heap.size, 1, none⟩ hgy hAy _).setFar ⟨w.heap.size, 2, none⟩ hgy hAy _
    · exact ((((((Only.of_fresh (S := fun b => b = g) Hb1.out).trans HO2.out).setCell (p := ⟨w.heap.size + 1, 1, none⟩) (.inr (Nat.le_succ _)) _).setCell (p := ⟨g, 1, none⟩) (.inl rfl) _).setCell (p := ⟨w.heap.size, 0, none⟩) (.inr (Nat.le_refl _)) _).setCell (p := ⟨w.heap.size, 1, none⟩) (.inr (Nat.le_refl _)) _).setCell (p := ⟨w.heap.size, 2, none⟩) (.inr (Nat.le_refl _)) _
theorem and_one64 (u : Nat) (h : u < 18446744073709551616) : bits .and .u64 (u : Int) 1 = ((u % 2 : Nat) : Int) := by
  have h1 : bits .and .u64 (u : Int) 1 = IntKind.u64.wrap (((BitVec.ofInt 64 (u : Int)) &&& (BitVec.ofInt 64 1)).toNat : Int) := rfl
  rw [h1, BitVec.ofInt_natCast, show BitVec.ofInt 64 1 = BitVec.ofNat 64 1 from rfl, BitVec.toNat_and, BitVec.toNat_ofNat, BitVec.toNat_ofNat, Nat.mod_eq_of_lt (by omega), Nat.mod_eq_of_lt (by omega), Nat.and_one_is_mod, IntKind.wrap_u64]
  omega
set_option maxRecDepth 100000 in
theorem rfReadI_any (g c at_ : Nat) (A : Option Addr) (bs : List UInt8) (w : World) (h : RR w g A c bs at_ 0) (hl : bs.length ≤ 140737488351232) :
    Calls Try.prog 79 #[.pointer (some ⟨g, 0, none⟩), .int .i64 2, .int .i64 0] w (RRead w g A c bs at_ 2 (stepI (numberL bs at_) at_)) := by
  have hgl := h.blk.lt
  have H := Lib.hid h
  clear h
  go_enter Try.func79, Try.ntmps79
  go_wp2_with fail
  obtain ⟨w1, hw1⟩ : ∃ w1, w1 = (w.alloc (.cells #[.int .i64 0, .int .i64 0, .slice none 0 0] 30)).alloc (.cells #[.int .i64 2, .int .i64 0, .slice none 0 0] 30) := ⟨_, rfl⟩
  rw [← hw1]
  have hb1 : Below w.heap.size w w1 := by rw [hw1]; exact ((Below.refl _ _).alloc (Nat.le_refl _) _).alloc (by simp) _
  have hX1 : Blk w1 (w.heap.size + 1) 30 #[.int .i64 2, .int .i64 0, .slice none 0 0] := by
    rw [hw1]
    have h := Blk.new (w.alloc (.cells #[.int .i64 0, .int .i64 0, .slice none 0 0] 30)) 30 #[.int .i64 2, .int .i64 0, .slice none 0 0]
    rw [World.size_alloc] at h
    exact h
  have hY1 : Blk w1 w.heap.size 30 #[.int .i64 0, .int .i64 0, .slice none 0 0] := by rw [hw1]; exact (Blk.new w _ _).alloc _
  obtain ⟨R, hR⟩ : ∃ R, R = numberL bs at_ := ⟨_, rfl⟩
  have hn := rfNumber_any g c at_ A bs w1 (H.out.below hb1) hl
  rw [← hR] at hn
  have HX1 := Lib.hid hX1
  have HY1 := Lib.hid hY1
  have Hn := Lib.hid hn
  have HR := Lib.hid hR
  have Hb1 := Lib.hid hb1
  clear hn hX1 hY1 hw1 hb1
  rw [← hR]
  clear hR
  refine Hn.out.mono ?_
  rintro e w2 (⟨u, k, hr, rfl, hR2, hO2⟩ | ⟨f, hr, rfl, hR2, hO2⟩)
  · have hX2 := HX1.out.only hO2 (by omega)
    have hY2 := HY1.out.only hO2 (by omega)
    have x0 : w2.cell? ⟨w.heap.size + 1, 0, none⟩ = some (.int .i64 2) := hX2.cell 0
    have x1 : w2.cell? ⟨w.heap.size + 1, 1, none⟩ = some (.int .i64 0) := hX2.cell 1
    have x2 : w2.cell? ⟨w.heap.size + 1, 2, none⟩ = some (.slice none 0 0) := hX2.cell 2
    have xf1 := hX2.frozen 1
    have y0 : w2.cell? ⟨w.heap.size, 0, none⟩ = some (.int .i64 0) := hY2.cell 0
    have y1 : w2.cell? ⟨w.heap.size, 1, none⟩ = some (.int .i64 0) := hY2.cell 1
    have y2 : w2.cell? ⟨w.heap.size, 2, none⟩ = some (.slice none 0 0) := hY2.cell 2
    have yf0 := hY2.frozen 0
    have yf1 := hY2.frozen 1
    have yf2 := hY2.frozen 2
    have hxl := hX2.lt
    have hyl := hY2.lt
    have k1 := hR2.c1
    have kf := hR2.blk.frozen 1
    have kl := hR2.blk.lt
    have hgx : w.heap.size + 1 ≠ g := by omega
    have hgy : w.heap.size ≠ g := by omega
    have hlt := number_lt (HR.out ▸ hr)
    have HR2 := Lib.hid hR2
    have HO2 := Lib.hid hO2
    clear hX2 hY2 Hn hR2 hO2
    have hres : stepI (numberL bs at_) at_ = .ok (unfoldN u, at_ + k) := by rw [← HR.out, hr]; rfl
    have hAx : bs ≠ [] → ∀ b o, A = some ⟨b, o, none⟩ → b ≠ w.heap.size + 1 := fun hn b o e => by have := H.out.lt hn b o e; omega
    have hAy : bs ≠ [] → ∀ b o, A = some ⟨b, o, none⟩ → b ≠ w.heap.size := fun hn b o e => by have := H.out.lt hn b o e; omega
    have hband : bits .and .u64 (u : Int) 1 = ((u % 2 : Nat) : Int) := and_one64 u hlt.1
    obtain ⟨hu64, hk1, hak⟩ := hlt
    have Hres := Lib.hid hres
    clear hres
    by_cases hp : u % 2 = 0
    · have g1 : ¬ ((u % 2 : Nat) : Int) = 1 := by omega
      have e1 : unfoldN u = (u : Int) / 2 := by unfold unfoldN; rw [if_pos hp]; omega
      rw [hp] at hband
      go_wp2_with fail
      refine bodyPost_ret (v := itemV 2 (unfoldN u)) ?_ rfl (.inl ⟨unfoldN u, at_ + k, Hres.out, rfl, ?_, ?_⟩)
      · rw [e1]
        simp [results, Try.results79, go_sem, itemV, y0, y1, y2]
      · rw [← Int.natCast_add]
        exact ((((HR2.out.setFar ⟨w.heap.size + 1, 1, none⟩ hgx hAx _).setAt (at_ + k) hak).setFar ⟨w.heap.size, 0, none⟩ hgy hAy _).setFar ⟨w.heap.size, 1, none⟩ hgy hAy _).setFar ⟨w.heap.size, 2, none⟩ hgy hAy _
      · exact ((((((Only.of_fresh (S := fun b => b = g) Hb1.out).trans HO2.out).setCell (p := ⟨w.heap.size + 1, 1, none⟩) (.inr (Nat.le_succ _)) _).setCell (p := ⟨g, 1, none⟩) (.inl rfl) _).setCell (p := ⟨w.heap.size, 0, none⟩) (.inr (Nat.le_refl _)) _).setCell (p := ⟨w.heap.size, 1, none⟩) (.inr (Nat.le_refl _)) _).setCell (p := ⟨w.heap.size, 2, none⟩) (.inr (Nat.le_refl _)) _
    · have g1 : u % 2 = 1 := by omega
      rw [g1] at hband
      have e1 : unfoldN u = 0 - (u : Int) / 2 - 1 := by unfold unfoldN; rw [if_neg hp]; omega
      go_wp2_with fail
      refine bodyPost_ret (v := itemV 2 (unfoldN u)) ?_ rfl (.inl ⟨unfoldN u, at_ + k, Hres.out, rfl, ?_, ?_⟩)
      · rw [e1]
        simp [results, Try.results79, go_sem, itemV, y0, y1, y2]
      · rw [← Int.natCast_add]
        exact (((((HR2.out.setFar ⟨w.heap.size + 1, 1, none⟩ hgx hAx _).setFar ⟨w.heap.size + 1, 1, none⟩ hgx hAx _).setAt (at_ + k) hak).setFar ⟨w.heap.size, 0, none⟩ hgy hAy _).setFar ⟨w.heap.size, 1, none⟩ hgy hAy _).setFar ⟨w.heap.size, 2, none⟩ hgy hAy _
      · exact (((((((Only.of_fresh (S := fun b => b = g) Hb1.out).trans HO2.out).setCell (p := ⟨w.heap.size + 1, 1, none⟩) (.inr (Nat.le_succ _)) _).setCell (p := ⟨w.heap.size + 1, 1, none⟩) (.inr (Nat.le_succ _)) _).setCell (p := ⟨g, 1, none⟩) (.inl rfl) _).setCell (p := ⟨w.heap.size, 0, none⟩) (.inr (Nat.le_refl _)) _).setCell (p := ⟨w.heap.size, 1, none⟩) (.inr (Nat.le_refl _)) _).setCell (p := ⟨w.heap.size, 2, none⟩) (.inr (Nat.le_refl _)) _
  · have hX2 := HX1.out.only hO2 (by omega)
    have hY2 := HY1.out.only hO2 (by omega)
    have x0 : w2.cell? ⟨w.heap.size + 1, 0, none⟩ = some (.int .i64 2) := hX2.cell 0
    have x1 : w2.cell? ⟨w.heap.size + 1, 1, none⟩ = some (.int .i64 0) := hX2.cell 1
    have x2 : w2.cell? ⟨w.heap.size + 1, 2, none⟩ = some (.slice none 0 0) := hX2.cell 2
    have xf1 := hX2.frozen 1
    have y0 : w2.cell? ⟨w.heap.size, 0, none⟩ = some (.int .i64 0) := hY2.cell 0
    have y1 : w2.cell? ⟨w.heap.size, 1, none⟩ = some (.int .i64 0) := hY2.cell 1
    have y2 : w2.cell? ⟨w.heap.size, 2, none⟩ = some (.slice none 0 0) := hY2.cell 2
    have yf0 := hY2.frozen 0
    have yf1 := hY2.frozen 1
    have yf2 := hY2.frozen 2
    have hxl := hX2.lt
    have hyl := hY2.lt
    have k1 := hR2.c1
    have kf := hR2.blk.frozen 1
    have kl := hR2.blk.lt
    have hgx : w.heap.size + 1 ≠ g := by omega
    have hgy : w.heap.size ≠ g := by omega
    have hle2 := hR2.le
    have HR2 := Lib.hid hR2
    have HO2 := Lib.hid hO2
    clear hX2 hY2 Hn hR2 hO2
    go_wp2_with fail
    have hres : stepI (numberL bs at_) at_ = .error f := by rw [← HR.out, hr]; rfl
    have hAx : bs ≠ [] → ∀ b o, A = some ⟨b, o, none⟩ → b ≠ w.heap.size + 1 := fun hn b o e => by have := H.out.lt hn b o e; omega
    have hAy : bs ≠ [] → ∀ b o, A = some ⟨b, o, none⟩ → b ≠ w.heap.size := fun hn b o e => by have := H.out.lt hn b o e; omega
    refine bodyPost_ret (v := itemV 2 0) ?_ rfl (.inr ⟨f, hres, rfl, ?_, ?_⟩)
    · simp [results, Try.results79, go_sem, itemV, y0, y1, y2]
    · exact ((((HR2.out.setFar ⟨w.heap.size + 1, 1, none⟩ hgx hAx _).setAt at_ hle2).setFar ⟨w.heap.size, 0, none⟩ hgy hAy _).setFar ⟨w.heap.size, 1, none⟩ hgy hAy _).setFar ⟨w.heap.size, 2, none⟩ hgy hAy _
    · exact ((((((Only.of_fresh (S := fun b => b = g) Hb1.out).trans HO2.out).setCell (p := ⟨w.heap.size + 1, 1, none⟩) (.inr (Nat.le_succ _)) _).setCell (p := ⟨g, 1, none⟩) (.inl rfl) _).setCell (p := ⟨w.heap.size, 0, none⟩) (.inr (Nat.le_refl _)) _).setCell (p := ⟨w.heap.size, 1, none⟩) (.inr (Nat.le_refl _)) _).setCell (p := ⟨w.heap.size, 2, none⟩) (.inr (Nat.le_refl _)) _
end
end Go.Proofs.Ytefaapcekbgjoaa
