/- A slice of things as a list; the contract of the reference's Done. -/
import Derived.Test.YtefaapcekbgjoaaRefB
namespace Go.Proofs.Ytefaapcekbgjoaa
open Go.RowKit

theorem flatMap_get {α β : Type} (f : α → List β) (n : Nat) (hf : ∀ x, (f x).length = n) (l : List α) : ∀ (i j : Nat) (x : α), l[i]? = some x → j < n → (l.flatMap f)[i * n + j]? = (f x)[j]? := by
  induction l with
  | nil => intro i j x h; simp at h
  | cons a l ih =>
    intro i j x h hj
    cases i with
    | zero =>
      simp only [List.getElem?_cons_zero, Option.some.injEq] at h
      subst h
      rw [List.flatMap_cons, Nat.zero_mul, Nat.zero_add, List.getElem?_append_left (by rw [hf]; exact hj)]
    | succ i =>
      simp only [List.getElem?_cons_succ] at h
      rw [List.flatMap_cons, List.getElem?_append_right (by rw [hf, Nat.succ_mul]; omega), hf, ← ih i j x h hj]
      congr 1
      rw [Nat.succ_mul]
      omega
theorem length_flatMap_const {α β : Type} (f : α → List β) (n : Nat) (hf : ∀ x, (f x).length = n) (l : List α) : (l.flatMap f).length = l.length * n := by
  induction l with
  | nil => simp
  | cons a l ih => rw [List.flatMap_cons, List.length_append, ih, hf, List.length_cons, Nat.succ_mul, Nat.add_comm]

def itemCells (x : Item) : List Value := [.int .i64 x.kind, .int .i64 x.n, .slice x.p.A x.p.ys.length x.p.c]
/-- The place A reads as these things. -/
structure Items (w : World) (A : Option Addr) (its : List Item) : Prop where
  rv : RV w A (its.flatMap itemCells)
  sl : ∀ x ∈ its, Sl w x.p
  ok : ∀ x ∈ its, x.ok
theorem Items.below {w w' : World} {A : Option Addr} {its : List Item} (h : Items w A its) (hb : Below w.heap.size w w') : Items w' A its := ⟨h.rv.below hb, fun x hx => (h.sl x hx).below hb, h.ok⟩
theorem Items.at_ {w : World} {A : Option Addr} {its : List Item} (h : Items w A its) {k : Nat} (hk : k < its.length) :
    ∃ b off, A = some ⟨b, off, none⟩ ∧ b < w.heap.size ∧ w.cell? ⟨b, off + k * 3, none⟩ = some (.int .i64 its[k].kind) ∧ w.cell? ⟨b, off + k * 3 + 1, none⟩ = some (.int .i64 its[k].n) ∧
      w.cell? ⟨b, off + k * 3 + 2, none⟩ = some (.slice its[k].p.A its[k].p.ys.length its[k].p.c) := by
  have hl : (its.flatMap itemCells).length = its.length * 3 := length_flatMap_const _ 3 (fun _ => rfl) _
  obtain ⟨b, off, hA, hb, hc⟩ := h.rv.at_ (by rw [hl]; omega)
  have hg := fun j hj => flatMap_get itemCells 3 (fun _ => rfl) its k j its[k] (List.getElem?_eq_getElem hk) hj
  refine ⟨b, off, hA, hb, hc _ _ (hg 0 (by omega)), ?_, ?_⟩
  · have := hc _ _ (hg 1 (by omega))
    rwa [← Nat.add_assoc] at this
  · have := hc _ _ (hg 2 (by omega))
    rwa [← Nat.add_assoc] at this

/-- What the document tells of all that was put. -/
def refFrom : List UInt8 → List Item → List UInt8 × Int
  | out, [] => (out, 0)
  | out, x :: l => if x.kind = 1 ∧ x.n < 0 then ([], 1) else if 4194304 < out.length + (itemL x).length then ([], 2) else refFrom (out ++ itemL x) l

/-- The call handed back new bytes and a number. -/
def FreshB2 (w : World) (r : List UInt8 × Int) (e : Ending) (w' : World) : Prop :=
  ∃ A c, e = .returned (.tuple #[.slice A r.1.length c, .int .i64 r.2]) ∧ OwnB w' w.heap.size A r.1.length c r.1 ∧ Below w.heap.size w w'

theorem itemL_le (x : Item) : (itemL x).length ≤ 9 + x.p.ys.length := by
  unfold itemL
  split
  · have := formL_le x.n.toNat; omega
  split
  · have := formL_le (foldN x.n); omega
  split
  · show 1 ≤ _; omega
  split
  · omega
  · have := formL_le x.p.ys.length
    rw [List.length_append]; omega

theorem refDone_any (A : Option Addr) (c : Nat) (its : List Item) (w : World) (hI : Items w A its) (hl : its.length ≤ 9223372036854775807) (hys : ∀ x ∈ its, x.p.ys.length ≤ 70368744177664) :
    Calls Try.prog 52 #[.slice A its.length c] w (FreshB2 w (refFrom [] its)) := by
  have Hys := Lib.hid hys
  clear hys
  go_enter Try.func52, Try.ntmps52
  go_wp2_with fail
  go_loopw [4, 5] (fun v i wr => ∃ (k : Nat) (out : List UInt8) (A' : Option Addr) (c' : Nat), k ≤ its.length ∧ i = .int .i64 k ∧ v = .slice A' out.length c' ∧ OwnB wr w.heap.size A' out.length c' out ∧ Below w.heap.size w wr ∧ out.length ≤ 4194304 ∧ Hid (refFrom [] its = refFrom out (its.drop k))) (fun _ i _ => its.length - (intOf i).toNat)
  case atStart => exact ⟨0, [], none, 0, Nat.zero_le _, rfl, rfl, Own.nil _ _ _ _, Below.refl _ _, by simp, rfl⟩
  case round =>
    obtain ⟨k, out, A', c', hk, rfl, rfl, hown, hB, hlen, HR⟩ := hrel
    have hsz := hB.size
    by_cases hlt : k < its.length
    · have hIr := hI.below hB
      obtain ⟨b, off, rfl, hb, h0, h1, h2⟩ := hIr.at_ hlt
      have hmem : its[k] ∈ its := List.getElem_mem hlt
      have hlt' : (k : Int) < its.length := by omega
      have hstep : refFrom [] its = refFrom out (its[k] :: its.drop (k + 1)) := by rw [HR.out, List.drop_eq_getElem_cons hlt]
      by_cases hneg : its[k].kind = 1 ∧ its[k].n < 0
      · have hres : Hid (refFrom [] its = ([], 1)) := by
          show _ = _
          rw [hstep]
          simp only [refFrom, if_pos hneg]
        obtain ⟨g1, g2⟩ := hneg
        have g1' : (its[k].kind == 1) = true := by rw [beq_iff_eq]; exact g1
        clear g1 hstep
        go_wp2_with fail
        go_ret2
        rw [hres.out]
        exact ⟨none, 0, rfl, Own.nil _ _ _ _, hB⟩
      · have hput := refPut_any its[k] wr (hIr.sl _ hmem) (hIr.ok _ hmem) (fun h => by
          rcases Int.lt_or_le its[k].n 0 with h' | h'
          · exact absurd ⟨h, h'⟩ hneg
          · exact h') (Hys.out _ hmem)
        have Hput := Lib.hid hput
        have hstep2 : refFrom [] its = if 4194304 < out.length + (itemL its[k]).length then ([], 2) else refFrom (out ++ itemL its[k]) (its.drop (k + 1)) := by
          rw [hstep]
          simp only [refFrom, if_neg hneg]
        have Hstep := Lib.hid hstep2
        have hcase : ((its[k].kind == 1) = true ∧ 0 ≤ its[k].n) ∨ (its[k].kind == 1) = false := by
          by_cases h1 : its[k].kind = 1
          · refine .inl ⟨by rw [beq_iff_eq]; exact h1, ?_⟩
            rcases Int.lt_or_le its[k].n 0 with h' | h'
            · exact absurd ⟨h1, h'⟩ hneg
            · exact h'
          · exact .inr (by rw [beq_eq_false_iff_ne]; exact h1)
        clear hput hstep hstep2 hneg
        rcases hcase with ⟨g1, g2⟩ | g1
        all_goals
          go_wp2_with fail
          refine Hput.out.mono ?_
          rintro e w2 hpost
          obtain ⟨A2, c2, rfl, hown2, hb2⟩ := hpost
          have hbs : (itemL its[k]).length ≤ 70368744177700 := by
            have := itemL_le its[k]
            have := Hys.out _ hmem
            omega
          generalize itemL its[k] = bs at *
          have hB2 := hB.trans (hb2.mono hsz)
          have hownO := Own.below hown hb2 (Nat.le_refl _)
          have hs2 := Sl.of_own hown2
          have Hnil := Lib.hid hs2.nil
          have hrv2 := hs2.rv
          clear hb2 hs2
          by_cases hov : 4194304 < out.length + bs.length
          · have hov' : (4194304 : Int) < out.length + bs.length := by omega
            have hres : Hid (refFrom [] its = ([], 2)) := by
              show _ = _
              rw [Hstep.out, if_pos hov]
            clear hov
            go_wp2_with fail
            go_ret2
            rw [hres.out]
            exact ⟨none, 0, rfl, Own.nil _ _ _ _, hB2⟩
          · have hov' : ¬ (4194304 : Int) < out.length + bs.length := by omega
            have hres : Hid (refFrom [] its = refFrom (out ++ bs) (its.drop (k + 1))) := by
              show _ = _
              rw [Hstep.out, if_neg hov]
            go_wp2_with (at_builtin; refine wpList_app rfl (.tmp 38) (.tmp 39) eByte rfl (base := w.heap.size) (n := out.length) (c := c') (A := A') (vs := out.map bv) rfl hownO (A' := A2) (m := bs.length) (c' := c2) (us := bs.map bv) rfl hrv2 (by simp) (map_bv_one _) (by unfold maxLen; omega) (by omega) hB2.size Hnil.out ?_; intro A3 c3 w3 hown3 hg3 hat3)
            have hB3 := hB2.grown hg3 hB2.size fun k hk => (hownO.row k hk).1
            exact ⟨⟨k + 1, out ++ bs, A3, c3, by omega, by go_num, by rw [List.length_append], OwnB.app hown3 rfl rfl, hB3, by rw [List.length_append]; omega, hres⟩, by simp [intOf]; omega⟩
    · go_wp2_with fail
      go_ret2
      have hres : refFrom [] its = (out, 0) := by rw [HR.out, List.drop_eq_nil_of_le (by omega)]; rfl
      rw [hres]
      exact ⟨A', c', rfl, hown, hB⟩
end Go.Proofs.Ytefaapcekbgjoaa
