/- Clone, of bytes, functions and instructions. -/
import Derived.Test.YtcmpmhlcfalbhaaPrgDw
import Derived.Test.YtcmpmhlcfalbhaaPrgLl
namespace Go.Proofs.Ytcmpmhlcfalbhaa
open Go.RowKit

theorem eqIn_nil_some {t e : TypeId} (hd : Try.prog.underlying t = some (.slice e)) (d : Nat) (a : Addr) (n c : Nat) (w : World) : (Op.equalIn (d + 1) t (.slice (some a) n c) (.slice none 0 0)).run Try.prog w = .ok false w := by
  simp [Op.equalIn, run_underlying hd]
theorem eqIn_nil_none {t e : TypeId} (hd : Try.prog.underlying t = some (.slice e)) (d : Nat) (w : World) : (Op.equalIn (d + 1) t (.slice none 0 0) (.slice none 0 0)).run Try.prog w = .ok true w := by
  simp [Op.equalIn, run_underlying hd]
theorem nil_some {t e : TypeId} (hd : Try.prog.underlying t = some (.slice e)) (a : Addr) (n c : Nat) (w : World) : (binOp .eql t (.slice (some a) n c) (.slice none 0 0)).run Try.prog w = .ok (.bool false) w := by
  have h : (Op.equal t (.slice (some a) n c) (.slice none 0 0)).run Try.prog w = .ok false w := eqIn_nil_some hd 9999 a n c w
  simp only [binOp]
  simp [h]
theorem nil_none {t e : TypeId} (hd : Try.prog.underlying t = some (.slice e)) (w : World) : (binOp .eql t (.slice none 0 0) (.slice none 0 0)).run Try.prog w = .ok (.bool true) w := by
  have h : (Op.equal t (.slice none 0 0) (.slice none 0 0)).run Try.prog w = .ok true w := eqIn_nil_none hd 9999 w
  simp only [binOp]
  simp [h]
def ClonePost (w : World) (el : TypeId) (size n : Nat) (us : List Value) (e : Ending) (w' : World) : Prop := ∃ A2 c2, e = .returned (.slice A2 n c2) ∧ Own w' w.heap.size el size A2 n c2 us ∧ Below w.heap.size w w'
set_option maxRecDepth 100000 in
theorem cloneB_any (A : Option Addr) (n c : Nat) (us : List Value) (w : World) (hr : RV w A us) (hl : us.length = n * 1) (h1 : ∀ u ∈ us, u.oneCell' = true) (hb : n * 1 ≤ 140737488355328) (hnil : A = none → n = 0 ∧ c = 0) :
    Calls Try.prog 98 #[.slice A n c] w (ClonePost w 5 1 n us) := by
  have Hr := Lib.hid hr
  have Hl := Lib.hid hl
  have H1 := Lib.hid h1
  have Hb := Lib.hid hb
  clear hr hl h1 hb
  cases A with
  | none =>
    obtain ⟨rfl, rfl⟩ := hnil rfl
    have hu : us = [] := List.eq_nil_of_length_eq_zero (by rw [Hl.out])
    have Hu := Lib.hid hu
    have hq := nil_none Try.underlying23
    clear hu hnil
    go_enter Try.func98, Try.ntmps98
    go_wp2_with fail
    go_ret
    exact ⟨none, 0, rfl, by rw [Hu.out]; exact Own.nil _ _ _ _, Below.refl _ _⟩
  | some a =>
    clear hnil
    have hq := nil_some Try.underlying23 a n c
    go_enter Try.func98, Try.ntmps98
    go_wp2_with (refine wpList_at 7 rfl ?_; refine wp_stop ?_)
    refine ⟨?_⟩
    obtain ⟨w1, hw1⟩ : ∃ w1, w1 = w.alloc (.cells #[] 5) := ⟨_, rfl⟩
    rw [← hw1]
    have ho : Own w1 w.heap.size 5 1 (some ⟨w.heap.size, 0, none⟩) 0 0 [] := by rw [hw1]; exact Own.lit w 5 1 0 #[] (Nat.le_refl _) (Nat.zero_le _) rfl
    have hb1 : Below w.heap.size w w1 := by rw [hw1]; exact (Below.refl _ _).alloc (Nat.le_refl _) _
    refine wpList_app rfl (.tmp 5) (.tmp 6) eByte rfl rfl (w := w1) ho (m := n) (c' := c) (us := us) rfl (Hr.out.below hb1) Hl.out H1.out (by have := Hb.out; unfold maxLen; omega) (by have := Hb.out; omega) hb1.size (fun e => by cases e) ?_
    intro A5 c5 w5 hown5 hg5 hA5
    have hb5 : Below w.heap.size w1 w5 := (Below.refl w.heap.size w1).grown hg5 hb1.size fun q hq => by injection hq with hq; exact Nat.le_of_eq hq
    rw [Nat.zero_add, List.nil_append] at hown5
    have Hown5 := Lib.hid hown5
    have HB5 := Lib.hid (hb1.trans hb5)
    clear hb5 hown5 hg5 hA5 hw1 hb1 ho
    simp only [Nat.zero_add]
    go_wp2_with fail
    go_ret
    exact ⟨A5, c5, rfl, Hown5.out, HB5.out⟩
end Go.Proofs.Ytcmpmhlcfalbhaa
