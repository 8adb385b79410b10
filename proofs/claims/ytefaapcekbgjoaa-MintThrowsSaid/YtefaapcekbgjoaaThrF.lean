/- The walk of through's second closure, where it comes to its throw. -/
import Derived.Test.YtefaapcekbgjoaaThrE
namespace Go.Proofs.Ytefaapcekbgjoaa
open Go.RowKit

set_option maxRecDepth 100000 in
set_option maxHeartbeats 1000000 in
theorem thr2_ok (g c n d p6 p5 p7 p8 p9 p10 : Nat) (k nn : Int) (A bA : Option Addr) (bc : Nat) (bs : List UInt8) (t : TypeId) (cs : List Value) (IH : ThrowsAt d k nn bA bc bs p10 3 t cs) (w : World) (h : Rd w g A c bs 0 false 0) (hl : bs.length ≤ 140737488351232) (hF : numsF bs n 0 = 0) (hn : n ≤ 1000)
    (hr : w.cell? ⟨p6, 0, none⟩ = some (.int .i64 (n : Int))) (hgr : p6 ≠ g) (h5 : w.cell? ⟨p5, 0, none⟩ = some (.slice bA bs.length bc)) (hg5 : p5 ≠ g) (h7 : w.cell? ⟨p7, 0, none⟩ = some (.int .i64 (d : Int))) (hg7 : p7 ≠ g) (h8 : w.cell? ⟨p8, 0, none⟩ = some (.int .i64 k)) (hg8 : p8 ≠ g) (h9 : w.cell? ⟨p9, 0, none⟩ = some (.int .i64 nn)) (hg9 : p9 ≠ g)
    (hb : Sl w ⟨bA, bc, bs⟩) (hbg : ∀ b o, bs.length ≠ 0 → bA = some ⟨b, o, none⟩ → b ≠ g) (hbq : ∀ b o, bs.length ≠ 0 → bA = some ⟨b, o, none⟩ → b ≠ p10) (hq : Blk w p10 t cs.toArray) (hgq : p10 ≠ g) (hA : ∀ b o, A = some ⟨b, o, none⟩ → b ≠ p10) :
    Calls Try.prog 59 #[.pointer (some ⟨g, 0, none⟩), .pointer (some ⟨p6, 0, none⟩), .pointer (some ⟨p5, 0, none⟩), .pointer (some ⟨p7, 0, none⟩), .pointer (some ⟨p8, 0, none⟩), .pointer (some ⟨p9, 0, none⟩), .pointer (some ⟨p10, 0, none⟩)] w
      fun e w' => ∃ at_ Ty v, Rd w' g A c bs at_ false 0 ∧ Other Ty v ∧ TVal nn w.heap.size w' k Ty v ∧ Threw (.iface Ty v) e ∧ Blk w' p10 t (cs.set 3 (.bool true)).toArray ∧ Only (fun b => b = g ∨ b = p10) w w' := by
  have H := Lib.hid h
  have hrl : p6 < w.heap.size := block_lt_of_cell hr
  have l5 := block_lt_of_cell h5
  have l7 := block_lt_of_cell h7
  have l8 := block_lt_of_cell h8
  have l9 := block_lt_of_cell h9
  dsimp only at l5 l7 l8 l9
  have Hb := Lib.hid hb
  have Hq := Lib.hid hq
  clear h hb hq
  go_enter Try.func59, Try.ntmps59
  go_wp2_with fail
  go_loopw [8] (fun i wr => ∃ (j a : Nat), j ≤ n ∧ i = .int .i64 j ∧ Rd wr g A c bs a false 0 ∧ Hid (numsF bs n 0 = numsF bs (n - j) a) ∧ Only (fun b => b = g) w wr) (fun i _ => n - (intOf i).toNat)
  case atStart => exact ⟨0, 0, Nat.zero_le _, rfl, H.out, Lib.hid rfl, Only.refl _ _⟩
  case round =>
    rename World => w1
    obtain ⟨j, a, hj, rfl, hrd, hnum, hO⟩ := hrel
    have hr1 : w1.cell? ⟨p6, 0, none⟩ = some (.int .i64 (n : Int)) := by rw [(ocell hO).1 _ _ hrl hgr]; exact hr
    have hrl1 := block_lt_of_cell hr1
    have Hrd := Lib.hid hrd
    have HO := Lib.hid hO
    clear hrd hO
    by_cases hlt : j < n
    · have g1 : (j : Int) < (n : Int) := by omega
      have hc := rNum_any g c a A bs w1 Hrd.out hl
      obtain ⟨q, hq⟩ : ∃ q, n - j = q + 1 := ⟨n - j - 1, by omega⟩
      have hq2 : n - (j + 1) = q := by omega
      have hnum2 := hnum.out
      rw [hq, numsF_succ] at hnum2
      cases hr : rNumL bs a with
      | error f2 =>
        rw [hr] at hc hnum2
        dsimp only at hc hnum2
        have hf2 := rNumL_err hr
        exact absurd (hnum2 ▸ hF : f2 = 0) hf2
      | ok p =>
        obtain ⟨u, k⟩ := p
        rw [hr] at hc hnum2
        dsimp only at hc hnum2
        have Hn2 := Lib.hid hnum2
        have Hc := Lib.hid hc
        clear hc hnum2 hr hnum
        go_wp2_with fail
        refine Hc.out.mono ?_
        rintro e w5 ⟨rfl, hrd5, ho5⟩
        have hO5 := Lib.hid (HO.out.trans ho5)
        have Hrd5 := Lib.hid hrd5
        clear hrd5 ho5 Hc
        go_wp2_with fail
        exact ⟨⟨j + 1, a + k, by omega, by go_num, Hrd5.out, by rw [hq2]; exact Hn2, hO5.out⟩, by simp [intOf]; omega⟩
    · obtain rfl : j = n := by omega
      have g5 : w1.cell? ⟨p5, 0, none⟩ = some (.slice bA bs.length bc) := by rw [(ocell HO.out).1 _ _ l5 hg5]; exact h5
      have g7 : w1.cell? ⟨p7, 0, none⟩ = some (.int .i64 (d : Int)) := by rw [(ocell HO.out).1 _ _ l7 hg7]; exact h7
      have g8 : w1.cell? ⟨p8, 0, none⟩ = some (.int .i64 k) := by rw [(ocell HO.out).1 _ _ l8 hg8]; exact h8
      have g9 : w1.cell? ⟨p9, 0, none⟩ = some (.int .i64 nn) := by rw [(ocell HO.out).1 _ _ l9 hg9]; exact h9
      have hz1 := HO.out.size
      have m5 : p5 < w1.heap.size := by omega
      have m7 : p7 < w1.heap.size := by omega
      have m8 : p8 < w1.heap.size := by omega
      have m9 : p9 < w1.heap.size := by omega
      have hsb1 : Sl w1 ⟨bA, bc, bs⟩ := ⟨Hb.out.rv.only HO.out (fun hne b o e => hbg b o (fun h0 => hne (by rw [show (Part.mk bA bc bs).ys = bs from rfl, List.eq_nil_of_length_eq_zero h0]; rfl)) e), Hb.out.nil⟩
      have hq1 := Hq.out.only HO.out hgq
      have hc := IH w1 hsb1 hbq hq1
      have Hc := Lib.hid hc
      clear hc hsb1 hq1 hnum h5 h7 h8 h9
      go_wp2_with fail
      refine Hc.out.mono ?_
      rintro e w2 ⟨Ty, v, hoth, htv, ⟨old, rfl, hold⟩, hcq, hO2⟩
      have htv2 := htv.only (base' := w.heap.size) (Only.refl (fun _ => False) w2) hz1 (fun _ h => h.elim)
      have hR := Hrd.out.only hO2 (fun e => hgq e.symm) fun b o e => hA b o e
      have hOO : Only (fun b => b = g ∨ b = p10) w w2 := (HO.out.mono fun _ _ e => .inl e).trans (hO2.mono fun _ _ e => .inr e)
      have HF := Lib.hid (show ∃ at_ Ty' v', Rd w2 g A c bs at_ false 0 ∧ Other Ty' v' ∧ TVal nn w.heap.size w2 k Ty' v' ∧ Threw (.iface Ty' v') (.panicked ({ v := .iface Ty v, recovered := false } :: old)) ∧ Blk w2 p10 t (cs.set 3 (.bool true)).toArray ∧ Only (fun b => b = g ∨ b = p10) w w2 from ⟨a, Ty, v, hR, hoth, htv2, ⟨old, rfl, hold⟩, hcq, hOO⟩)
      clear htv htv2 hR hOO hO2 hoth hold hcq
      go_wp2_with fail
      exact ⟨rfl, HF.out⟩
end Go.Proofs.Ytefaapcekbgjoaa
