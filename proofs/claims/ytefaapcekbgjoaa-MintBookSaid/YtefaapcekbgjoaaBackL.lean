/- What MintBack's things are: plain laws. -/
import Derived.Test.YtefaapcekbgjoaaRights
import Derived.Test.YtefaapcekbgjoaaWritten
import Derived.Test.YtefaapcekbgjoaaSameI
namespace Go.Proofs.Ytefaapcekbgjoaa
open Go.RowKit

theorem right_okay (x : Item) (h : x.ok) : Okay (rightI x) := by
  obtain ⟨h1, h2, h3, h4, h5⟩ := h
  unfold rightI
  by_cases hB : isB x = true
  · have hk := isB_kind hB
    rw [if_pos hB]
    by_cases hn : x.kind = 1 ∧ x.n < 0
    · rw [if_pos hn]
      exact ⟨hk.1, hk.2.1, fun _ => by show 0 ≤ -(x.n + 1); omega, fun h => by have : x.kind = 3 := h; omega, by show _ ≤ -(x.n + 1); omega, by show -(x.n + 1) ≤ _; omega, h5⟩
    · rw [if_neg hn]
      by_cases h3k : x.kind = 3
      · rw [if_pos h3k]
        exact ⟨hk.1, hk.2.1, fun h => by have : x.kind = 1 := h; omega, fun _ => by show x.n % 2 = 0 ∨ x.n % 2 = 1; omega, by show _ ≤ x.n % 2; omega, by show x.n % 2 ≤ _; omega, h5⟩
      · rw [if_neg h3k]
        exact ⟨hk.1, hk.2.1, fun h => by
          rcases Int.lt_or_le x.n 0 with h' | h'
          · exact absurd ⟨h, h'⟩ hn
          · exact h', fun h => absurd h h3k, h3, h4, h5⟩
  · rw [if_neg hB]
    exact ⟨by show (1 : Int) ≤ 2; omega, by show (2 : Int) ≤ 6; omega, fun h => by have : (2 : Int) = 1 := h; omega, fun h => by have : (2 : Int) = 3 := h; omega, h3, h4, by show 0 ≤ _; omega⟩
theorem right_sl {w : World} (x : Item) (h : Sl w x.p) : Sl w (rightI x).p := by
  unfold rightI
  split
  · split
    · exact h
    · split
      · exact h
      · exact h
  · exact ⟨RV.nil _ _, fun _ => ⟨rfl, rfl⟩⟩
theorem rights_mem {its : List Item} {k q : Nat} {y : Item} (h : y ∈ rightsL its k q) : ∃ x ∈ its, y = rightI x ∧ y.p.ys.length ≤ q := by
  unfold rightsL at h
  obtain ⟨h1, h2⟩ := List.mem_filter.1 h
  obtain ⟨x, hx, rfl⟩ := List.mem_map.1 h1
  exact ⟨x, List.mem_of_mem_take hx, rfl, by simpa using h2⟩
theorem forms_le (l : List Item) (q : Nat) (h : ∀ x ∈ l, x.p.ys.length ≤ q) : (formsL l).length ≤ l.length * (9 + q) := by
  induction l with
  | nil => simp [formsL]
  | cons x l ih =>
    have h1 := ih fun y hy => h y (List.mem_cons_of_mem _ hy)
    have h2 := itemL_le x
    have h3 := h x List.mem_cons_self
    unfold formsL at h1 ⊢
    rw [List.flatMap_cons, List.length_append, List.length_cons, Nat.succ_mul]
    omega
/-- The sheet behind the closure's work on the Reader and on Read's answer. -/
theorem Sheet.only {S : Nat → Prop} {w w' : World} {gs g base : Nat} {AW : Option Addr} {cW : Nat} {all : List Item} {k : Nat} {AT : Option Addr} {cT : Nat} {AL : Option Addr} {cL : Nat} {told : List Item}
    (h : Sheet w gs g base AW cW all k AT cT AL cL told) (ho : Only S w w') (hS : ∀ b, S b → b < base) (hgs : ¬ S gs) : Sheet w' gs g base AW cW all k AT cT AL cL told :=
  ⟨h.blk.only ho hgs, h.rowT.only ho fun b o e hs => by
      have h1 := (Own.row h.rowT b (by rw [e]; rfl)).1
      have h2 := hS b hs
      omega, h.left.only ho fun b o e hs => by
      have h1 := (Own.row h.left b (by rw [e]; rfl)).1
      have h2 := hS b hs
      omega, h.len, h.mat, fun y hy => (h.own y hy).only ho fun b o e hs => by
      have h1 := ((h.own y hy).blk b o e).1
      have h2 := hS b hs
      omega⟩
theorem left_last (all : List Item) (n : Nat) (h : n + 1 = all.length) : (leftV all all.length)[n]? = some (.int .i64 0) := by
  unfold leftV
  rw [List.getElem?_map, List.getElem?_range (by omega)]
  show some (Value.int .i64 (((formsL all).length - (formsL (all.take (n + 1))).length : Nat) : Int)) = _
  rw [h, List.take_length, Nat.sub_self]
  rfl
end Go.Proofs.Ytefaapcekbgjoaa
