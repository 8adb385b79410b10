/- Contracts of bytes.Clone and of mint's (*Writer).Done. -/
import Derived.Test.YtmmdkpnoncnjnaaMintC
import Derived.BigQuiet
import Derived.Deep.QuietTactic
namespace Go.Proofs.Ytmmdkpnoncnjnaa
open Go.RowKit

/-- The call handed back a new slice of bytes that reads as ys. -/
def FreshB (w : World) (ys : List UInt8) (e : Ending) (w' : World) : Prop :=
  ∃ A c, e = .returned (.slice A ys.length c) ∧ OwnB w' w.heap.size A ys.length c ys ∧ Below w.heap.size w w'

theorem clone_any (p : Part) (w : World) (hp : Sl w p) (hl : p.ys.length ≤ 140737488355328) :
    Calls Try.prog 63 #[.slice p.A p.ys.length p.c] w (FreshB w p.ys) := by
  have qT : ∀ (w : World) (a : Option Addr) (n c n' c' : Nat), (binOp .eql 32 (.slice a n c) (.slice none n' c')).run Try.prog w = .ok (.bool a.isNone) w := fun w a n c n' c' => Lib.run_eql_slice_nil w _ _ a n c n' c' Try.underlying32
  obtain ⟨A, c, ys⟩ := p
  have hrv : RV w A (ys.map bv) := hp.rv
  have hnil : A = none → ys.length = 0 ∧ c = 0 := hp.nil
  change ys.length ≤ _ at hl
  cases A with
  | none =>
    obtain ⟨h0, rfl⟩ := hnil rfl
    obtain rfl : ys = [] := List.eq_nil_of_length_eq_zero h0
    go_enter Try.func63, Try.ntmps63
    go_wp2
    go_ret
    exact ⟨none, 0, rfl, Own.nil _ _ _ _, Below.refl _ _⟩
  | some a =>
    clear hnil
    have hown0 : OwnB (w.alloc (.cells #[] 5)) w.heap.size (some ⟨w.heap.size, 0, none⟩) 0 0 [] := Own.lit w _ 1 0 #[] (Nat.le_refl _) (by decide) rfl
    have hrv0 := hrv.alloc (.cells #[] 5)
    go_enter Try.func63, Try.ntmps63
    go_wp2_with (at_builtin; refine wpList_app rfl (.tmp 5) (.tmp 6) eByte rfl (base := w.heap.size) (n := 0) (c := 0) (A := some ⟨w.heap.size, 0, none⟩) (vs := []) rfl hown0 (A' := some a) (m := ys.length) (c' := c) (us := ys.map bv) rfl hrv0 (by simp) (map_bv_one _) (by unfold maxLen; omega) (by omega) (by simp) (by simp) ?_; intro A2 c2 w2 hown2 hg2 hat2)
    go_ret
    simp only [Nat.zero_add, List.nil_append] at hown2
    refine ⟨A2, c2, rfl, hown2, ((Below.refl _ _).alloc (Nat.le_refl _) _).grown hg2 (by simp) fun k hk => ?_⟩
    simp at hk
    omega

/-- What Done tells of a Writer that holds xs and the fault f. -/
def doneL (xs : List UInt8) (f : Int) : List UInt8 := if f = 0 then xs else []
def DonePost (w : World) (xs : List UInt8) (f : Int) (e : Ending) (w' : World) : Prop :=
  ∃ A c, e = .returned (.tuple #[.slice A (doneL xs f).length c, .int .i64 f]) ∧ OwnB w' w.heap.size A (doneL xs f).length c (doneL xs f) ∧ Below w.heap.size w w'

theorem done_any (base g : Nat) (A : Option Addr) (c : Nat) (xs : List UInt8) (f : Int) (w : World) (hW : Wr w base g A c xs f) (hx : xs.length ≤ 4194304) :
    Calls Try.prog 40 #[.pointer (some ⟨g, 0, none⟩)] w (DonePost w xs f) := by
  have hc0 := hW.c0
  have hc1 := hW.c1
  have hgl := hW.blk.lt
  by_cases hf : f = 0
  · subst hf
    have hs : Sl w ⟨A, c, xs⟩ := Sl.of_own hW.own
    go_enter Try.func40, Try.ntmps40
    go_wp2_with fail
    refine (clone_any ⟨A, c, xs⟩ w hs (by show xs.length ≤ _; omega)).mono ?_
    rintro e w1 ⟨A1, c1, rfl, hown1, hb1⟩
    go_wp2_with fail
    go_ret2
    exact ⟨A1, c1, rfl, hown1, hb1⟩
  · have hfb : (f != 0) = true := by rw [bne_iff_ne]; exact hf
    have hd : doneL xs f = [] := by unfold doneL; rw [if_neg hf]
    have Hd := Lib.hid hd
    clear hf hd
    go_enter Try.func40, Try.ntmps40
    go_wp2_with fail
    go_quiet (fail)
    go_wp2_with fail
    go_ret2
    unfold DonePost
    rw [Hd.out]
    exact ⟨none, 0, rfl, Own.nil _ _ _ _, below_drewN (Below.refl _ _) _⟩
end Go.Proofs.Ytmmdkpnoncnjnaa
