/- The walks of throws and its closures. -/
import Derived.Test.YtefaapcekbgjoaaThrA
namespace Go.Proofs.Ytefaapcekbgjoaa
open Go.RowKit

/-- What is thrown, by its kind. -/
inductive TVal (n : Int) (base : Nat) (w : World) : Int → TypeId → Value → Prop
  | ptr (t : Nat) (hb : base ≤ t) (h : Blk w t 101 #[.int .i64 n]) : TVal n base w 0 99 (.pointer (some ⟨t, 0, none⟩))
  | int : TVal n base w 1 3 (.int .i64 n)
  | str (s : ByteArray) (h : (s.size : Int) = n % 7) : TVal n base w 2 9 (.string s)
theorem TVal.only {S : Nat → Prop} {n : Int} {base base' : Nat} {w w' : World} {k : Int} {T : TypeId} {v : Value} (h : TVal n base w k T v) (ho : Only S w w') (hb : base' ≤ base) (hS : ∀ b, S b → b < base) : TVal n base' w' k T v := by
  cases h with
  | ptr t h1 h2 => exact .ptr t (by omega) (h2.only ho fun e => by have := hS _ e; omega)
  | int => exact .int
  | str s h => exact .str s h
theorem other_ptr (v : Value) : Other 99 v := fun w => by kernel_rfl
theorem other_int (v : Value) : Other 3 v := fun w => by kernel_rfl
theorem other_str (v : Value) : Other 9 v := fun w => by kernel_rfl
set_option maxRecDepth 100000 in
set_option maxHeartbeats 1000000 in
theorem throws2_any (k n : Int) (pk pn : Nat) (w : World) (hk : k = 0 ∨ k = 1 ∨ k = 2) (hn1 : 1 ≤ n) (hn2 : n ≤ 1000) (hpk : w.cell? ⟨pk, 0, none⟩ = some (.int .i64 k)) (hpn : w.cell? ⟨pn, 0, none⟩ = some (.int .i64 n)) :
    Calls Try.prog 78 #[.pointer (some ⟨pk, 0, none⟩), .pointer (some ⟨pn, 0, none⟩)] w fun e w' => ∃ Ty v, Other Ty v ∧ TVal n w.heap.size w' k Ty v ∧ e = .panicked [{ v := .iface Ty v, recovered := false }] ∧ Below w.heap.size w w' := by
  have hpan : ∀ (T : TypeId) (x : Value) (w : World), (Instr.panic (.iface T x)).run Try.prog w = .halt (.panic (.iface T x)) w := fun _ _ _ => rfl
  have hkl : pk < w.heap.size := block_lt_of_cell hpk
  have hnl : pn < w.heap.size := block_lt_of_cell hpn
  rcases hk with rfl | rfl | rfl
  · go_enter Try.func78, Try.ntmps78
    go_wp2_with fail
    exact ⟨rfl, _, _, other_ptr _, .ptr w.heap.size (Nat.le_refl _) (Blk.new w _ _), rfl, (Below.refl _ _).alloc (Nat.le_refl _) _⟩
  · go_enter Try.func78, Try.ntmps78
    go_wp2_with fail
    exact ⟨rfl, _, _, other_int _, .int, rfl, Below.refl _ _⟩
  · have hm : n % 7 = 0 ∨ n % 7 = 1 ∨ n % 7 = 2 ∨ n % 7 = 3 ∨ n % 7 = 4 ∨ n % 7 = 5 ∨ n % 7 = 6 := by omega
    have hr : n.tmod 7 = n % 7 := Int.tmod_eq_emod_of_nonneg (by omega)
    have hstr : ∀ s : ByteArray, (s.size : Int) = n % 7 → TVal n w.heap.size w 2 9 (.string s) := fun s h => .str s h
    have Hstr := Lib.hid hstr
    clear hstr
    rcases hm with h | h | h | h | h | h | h
    all_goals
      rw [h] at hr
      have H := Lib.hid h
      clear h
      go_enter Try.func78, Try.ntmps78
      go_wp2_with fail
      exact ⟨rfl, _, _, other_str _, Hstr.out _ (by rw [H.out]; rfl), rfl, Below.refl _ _⟩
/-- What a throw so many Reads further in tells. -/
def ThrowsAt (d : Nat) (k n : Int) (bA : Option Addr) (bc : Nat) (bs : List UInt8) (pq qo : Nat) (t : TypeId) (cs : List Value) : Prop :=
  ∀ w : World, Sl w ⟨bA, bc, bs⟩ → (∀ b o, bs.length ≠ 0 → bA = some ⟨b, o, none⟩ → b ≠ pq) → Blk w pq t cs.toArray →
    Calls Try.prog 60 #[.slice bA bs.length bc, .int .i64 (d : Int), .int .i64 k, .int .i64 n, .pointer (some ⟨pq, qo, none⟩)] w fun e w' => ∃ Ty v, Other Ty v ∧ TVal n w.heap.size w' k Ty v ∧ Threw (.iface Ty v) e ∧
      Blk w' pq t (cs.set qo (.bool true)).toArray ∧ Only (fun b => b = pq) w w'
set_option maxRecDepth 100000 in
set_option maxHeartbeats 1000000 in
theorem throws1_any (d : Nat) (k n : Int) (bA : Option Addr) (bc : Nat) (bs : List UInt8) (pq qo : Nat) (t : TypeId) (cs : List Value) (IH : ThrowsAt d k n bA bc bs pq qo t cs) (hd : d ≤ 1000) (g c p5 p6 p7 p8 p9 : Nat) (A : Option Addr) (w : World) (h : Rd w g A c bs 0 false 0) (hl : bs.length ≤ 140737488351232)
    (h5 : w.cell? ⟨p5, 0, none⟩ = some (.slice bA bs.length bc)) (h6 : w.cell? ⟨p6, 0, none⟩ = some (.int .i64 ((d : Int) + 1))) (h7 : w.cell? ⟨p7, 0, none⟩ = some (.int .i64 k)) (h8 : w.cell? ⟨p8, 0, none⟩ = some (.int .i64 n)) (h9 : w.cell? ⟨p9, 0, none⟩ = some (.pointer (some ⟨pq, qo, none⟩)))
    (hb : Sl w ⟨bA, bc, bs⟩) (hbq : ∀ b o, bs.length ≠ 0 → bA = some ⟨b, o, none⟩ → b ≠ pq) (hq : Blk w pq t cs.toArray) (hgq : pq ≠ g) (hA : ∀ b o, A = some ⟨b, o, none⟩ → b ≠ pq) :
    Calls Try.prog 77 #[.pointer (some ⟨g, 0, none⟩), .pointer (some ⟨p5, 0, none⟩), .pointer (some ⟨p6, 0, none⟩), .pointer (some ⟨p7, 0, none⟩), .pointer (some ⟨p8, 0, none⟩), .pointer (some ⟨p9, 0, none⟩)] w
      fun e w' => ∃ Ty v, Rd w' g A c bs 0 false 0 ∧ Other Ty v ∧ TVal n w.heap.size w' k Ty v ∧ Threw (.iface Ty v) e ∧ Blk w' pq t (cs.set qo (.bool true)).toArray ∧ Only (fun b => b = pq) w w' := by
  have l5 := block_lt_of_cell h5
  have l6 := block_lt_of_cell h6
  have l7 := block_lt_of_cell h7
  have l8 := block_lt_of_cell h8
  have l9 := block_lt_of_cell h9
  dsimp only at l5 l6 l7 l8 l9
  have hw : IntKind.i64.wrap (d : Int) = (d : Int) := IntWalk.i64_in _ (by omega)
  have hleft := rLeft_any g c 0 A bs w h hl
  have Hleft := Lib.hid hleft
  have H := Lib.hid h
  have Hb := Lib.hid hb
  clear h hleft hb
  go_enter Try.func77, Try.ntmps77
  go_wp2_with fail
  refine Hleft.out.mono ?_
  rintro e w1 ⟨rfl, m, hw1⟩
  have hb1 : Below w.heap.size w w1 := by rw [hw1]; exact below_drewN (Below.refl _ _) m
  have k1 := fun (q : Nat) (hq : q < w.heap.size) => (bcell hb1).1 q 0 hq
  have g5 : w1.cell? ⟨p5, 0, none⟩ = some (.slice bA bs.length bc) := by rw [k1 _ l5]; exact h5
  have g6 : w1.cell? ⟨p6, 0, none⟩ = some (.int .i64 ((d : Int) + 1)) := by rw [k1 _ l6]; exact h6
  have g7 : w1.cell? ⟨p7, 0, none⟩ = some (.int .i64 k) := by rw [k1 _ l7]; exact h7
  have g8 : w1.cell? ⟨p8, 0, none⟩ = some (.int .i64 n) := by rw [k1 _ l8]; exact h8
  have g9 : w1.cell? ⟨p9, 0, none⟩ = some (.pointer (some ⟨pq, qo, none⟩)) := by rw [k1 _ l9]; exact h9
  have hz1 := hb1.size
  have m5 : p5 < w1.heap.size := by omega
  have m6 : p6 < w1.heap.size := by omega
  have m7 : p7 < w1.heap.size := by omega
  have m8 : p8 < w1.heap.size := by omega
  have m9 : p9 < w1.heap.size := by omega
  have hc := IH w1 (Hb.out.below hb1) hbq (hq.below hb1 hq.lt)
  have Hc := Lib.hid hc
  have Hb1 := Lib.hid hb1
  have Hrd := Lib.hid (H.out.below hb1)
  clear hc hb1 k1 hw1 Hleft h5 h6 h7 h8 h9
  go_wp2_with fail
  refine Hc.out.mono ?_
  rintro e w2 ⟨Ty, v, hoth, htv, ⟨old, rfl, hold⟩, hcq, hO2⟩
  have htv2 := htv.only (Only.refl (fun _ => False) w2) hz1 (fun _ h => h.elim)
  have hR := Hrd.out.only hO2 (fun e => hgq e.symm) fun b o e => hA b o e
  have hOO : Only (fun b => b = pq) w w2 := (Only.of_fresh Hb1.out).trans hO2
  have HF := Lib.hid (show ∃ Ty' v', Rd w2 g A c bs 0 false 0 ∧ Other Ty' v' ∧ TVal n w.heap.size w2 k Ty' v' ∧ Threw (.iface Ty' v') (.panicked ({ v := .iface Ty v, recovered := false } :: old)) ∧ Blk w2 pq t (cs.set qo (.bool true)).toArray ∧ Only (fun b => b = pq) w w2 from ⟨Ty, v, hR, hoth, htv2, ⟨old, rfl, hold⟩, hcq, hOO⟩)
  clear htv htv2 hR hOO hO2 hoth hold hcq
  go_wp2_with fail
  exact ⟨rfl, HF.out⟩
end Go.Proofs.Ytefaapcekbgjoaa
