/- The lists that MintBook keeps: plain laws. -/
import Derived.Test.YtefaapcekbgjoaaTold
import Derived.Test.YtefaapcekbgjoaaGrown
namespace Go.Proofs.Ytefaapcekbgjoaa
open Go.RowKit

/-- Lists of bytes of the call's own, in unlike blocks, in a row of the call's own. -/
structure Lists (w0 w : World) (B : Nat) (ps : List Part) (AL : Option Addr) (cL : Nat) : Prop where
  row : Own w B 22 1 AL ps.length cL (ps.map pv)
  own : ∀ p ∈ ps, OwnB w B p.A p.ys.length p.c p.ys
  sole : ∀ (i j : Nat) (p q : Part), i < j → ps[i]? = some p → ps[j]? = some q → ∀ b, p.A.map (·.block) = some b → q.A.map (·.block) ≠ some b
  below : Below B w0 w
  len : ∀ p ∈ ps, p.ys.length ≤ 4194304
theorem Lists.on {w0 w w' : World} {B : Nat} {ps : List Part} {AL : Option Addr} {cL : Nat} (h : Lists w0 w B ps AL cL) (hb : Below w.heap.size w w') (hB : B ≤ w.heap.size) : Lists w0 w' B ps AL cL :=
  ⟨Own.below h.row hb (Nat.le_refl _), fun p hp => Own.below (h.own p hp) hb (Nat.le_refl _), h.sole, h.below.trans (hb.mono hB), h.len⟩
theorem own_blk {w : World} {base n c : Nat} {A : Option Addr} {ys : List UInt8} (h : OwnB w base A n c ys) (b : Nat) (hb : A.map (·.block) = some b) : A = some ⟨b, 0, none⟩ ∧ base ≤ b ∧ b < w.heap.size := by
  have h1 := Own.row h b hb
  refine ⟨?_, h1.1, h1.2⟩
  rcases h.2 with ⟨hv, hn⟩ | ⟨g', cap, cur, hv, hg', hh, r⟩
  · injection hv with h2; rw [h2] at hb; cases hb
  · have hA' : A = some ⟨g', 0, none⟩ := by injection hv
    rw [hA'] at hb ⊢
    simp at hb
    rw [hb]
theorem Lists.lt {w0 w : World} {B : Nat} {ps : List Part} {AL : Option Addr} {cL : Nat} (h : Lists w0 w B ps AL cL) : ∀ p ∈ ps, ∀ b, p.A.map (·.block) = some b → B ≤ b ∧ b < w.heap.size := fun p hp b hb => (own_blk (h.own p hp) b hb).2
theorem Lists.step {w0 w wx w5 : World} {B c5 : Nat} {ps : List Part} {AL A5 : Option Addr} {cL : Nat} {p : Part} (h : Lists w0 w B ps AL cL) (hp : OwnB w B p.A p.ys.length p.c p.ys) (hl : p.ys.length ≤ 4194304)
    (hf : ∀ q ∈ ps, ∀ b, q.A.map (·.block) = some b → p.A.map (·.block) ≠ some b) (hB : B ≤ w.heap.size) (hb : Below w.heap.size w wx) (hg : wx.grownBy w5 (AL.map (·.block))) (hown5 : Own w5 B 22 1 A5 (ps.length + 1) c5 (ps.map pv ++ [pv p])) :
    Lists w0 w5 B (ps ++ [p]) A5 c5 := by
  have hz := hb.size
  have hAL : ∀ q, AL.map (·.block) = some q → B ≤ q ∧ q < w.heap.size := Own.row h.row
  have hT := Only.of_grown (S := fun q => AL.map (·.block) = some q) hg fun q e => e
  have hrowx := Own.below h.row hb (Nat.le_refl _)
  have keepB : ∀ {n0 c0 : Nat} {A0 : Option Addr} {ys : List UInt8}, OwnB w B A0 n0 c0 ys → OwnB w5 B A0 n0 c0 ys := fun h2 => Own.only (Own.below h2 hb (Nat.le_refl _)) hT fun b o e e2 => hrowx.ne_map2 (Own.below h2 hb (Nat.le_refl _)) (by decide) b o e e2
  refine ⟨?_, fun q hq => ?_, fun i j q r hij hi hj b e e2 => ?_, (h.below.trans (hb.mono hB)).trans (hT.below (by omega) fun q hq e => by have := (hAL q e).1; omega), fun q hq => ?_⟩
  · rw [List.length_append, List.length_singleton, List.map_append]
    exact hown5
  · rcases List.mem_append.1 hq with hq | hq
    · exact keepB (h.own q hq)
    · rw [List.mem_singleton.1 hq]; exact keepB hp
  · have hjl := (List.getElem?_eq_some_iff.1 hj).1
    rw [List.length_append, List.length_singleton] at hjl
    rw [List.getElem?_append_left (by omega)] at hi
    rcases Nat.lt_or_ge j ps.length with h1 | h1
    · rw [List.getElem?_append_left h1] at hj
      exact h.sole i j q r hij hi hj b e e2
    · obtain rfl : j = ps.length := by omega
      rw [List.getElem?_append_right (Nat.le_refl _), Nat.sub_self] at hj
      injection hj with hj
      subst hj
      exact hf q (List.mem_of_getElem? hi) b e e2
  · rcases List.mem_append.1 hq with hq | hq
    · exact h.len q hq
    · rw [List.mem_singleton.1 hq]; exact hl
/-- A sheet stays when something is appended to the lists. -/
theorem SheetG.grown {w wx w5 : World} {bs : List UInt8} {gs g base : Nat} {AW : Option Addr} {cW : Nat} {all : List Item} {k : Nat} {ats : Nat → Nat} {AT : Option Addr} {cT : Nat} {AL : Option Addr} {cL : Nat} {told : List Item} {B n c : Nat} {AM : Option Addr} {vs : List Value}
    (h : SheetG w bs gs g base AW cW all k ats AT cT AL cL told) (hL : Own w B 22 1 AM n c vs) (hb : Below w.heap.size w wx) (hg : wx.grownBy w5 (AM.map (·.block))) : SheetG w5 bs gs g base AW cW all k ats AT cT AL cL told := by
  have hx := h.below hb
  have hLx := Own.below hL hb (Nat.le_refl _)
  have hT := Only.of_grown (S := fun q => AM.map (·.block) = some q) hg fun q e => e
  exact ⟨hx.blk.only hT (hLx.ne_map hx.blk (by decide)), hx.rowT.only hT fun b o e => hLx.ne_map2 hx.rowT (by decide) b o e, hx.left.only hT fun b o e => hLx.ne_map2 hx.left (by decide) b o e, hx.len, hx.zero, hx.step,
    fun y hy => (hx.own y hy).only hT fun b o e => hLx.ne_mine (hx.own y hy) (by decide) b o e, hx.sole⟩
/-- The parts of what was told that are kept. -/
def toldL (told : List Item) (i : Nat) : List Part := ((told.take i).filter fun y => decide (y.kind ≠ 5)).map Item.p
theorem toldL_mem {told : List Item} {i : Nat} {p : Part} (h : p ∈ toldL told i) : ∃ j y, j < i ∧ told[j]? = some y ∧ p = y.p := by
  unfold toldL at h
  obtain ⟨y, hy, rfl⟩ := List.mem_map.1 h
  obtain ⟨j, hj, hjy⟩ := List.getElem_of_mem (List.mem_filter.1 hy).1
  rw [List.length_take] at hj
  refine ⟨j, y, by omega, ?_, rfl⟩
  rw [List.getElem_take] at hjy
  rw [List.getElem?_eq_getElem (by omega), hjy]
theorem toldL_next {told : List Item} {i : Nat} {y : Item} (h : told[i]? = some y) : toldL told (i + 1) = if y.kind = 5 then toldL told i else toldL told i ++ [y.p] := by
  obtain ⟨hi, hy⟩ := List.getElem?_eq_some_iff.1 h
  unfold toldL
  rw [List.take_succ_eq_append_getElem hi, List.filter_append, List.map_append, hy]
  split
  · rename_i h5; simp [h5]
  · rename_i h5; simp [h5]
theorem toldL_len (told : List Item) (i : Nat) : (toldL told i).length ≤ i := by
  unfold toldL
  rw [List.length_map]
  have h1 := List.length_filter_le (fun y : Item => decide (y.kind ≠ 5)) (told.take i)
  rw [List.length_take] at h1
  omega
theorem refFrom_forms : ∀ (l : List Item) (out : List UInt8), (∀ x ∈ l, Okay x) → out.length + (formsL l).length ≤ 4194304 → refFrom out l = (out ++ formsL l, 0)
  | [], out, _, _ => by simp [refFrom, formsL]
  | x :: l, out, hok, hl => by
    have hx := hok x (by simp)
    have e : formsL (x :: l) = itemL x ++ formsL l := by simp [formsL]
    rw [e, List.length_append] at hl
    unfold refFrom
    rw [if_neg (fun h => by have := hx.num h.1; omega), if_neg (by omega), refFrom_forms l (out ++ itemL x) (fun y hy => hok y (by simp [hy])) (by rw [List.length_append]; omega), e, List.append_assoc]
end Go.Proofs.Ytefaapcekbgjoaa
