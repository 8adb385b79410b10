/- What MintApart's loop holds: plain laws. -/
import Derived.Test.YtefaapcekbgjoaaReadS
import Derived.Test.YtefaapcekbgjoaaLend
import Derived.Test.YtefaapcekbgjoaaQMid
import Derived.Test.YtefaapcekbgjoaaBigA
namespace Go.Proofs.Ytefaapcekbgjoaa
open Go.RowKit

/-- The head of a round: two lists, two Writers, how far each is. -/
structure Two (w5 wr : World) (gL gT : Nat) (gw : Nat → Nat) (l : Nat → List Item) (AW : Nat → Option Addr) (cW : Nat → Nat) (i : Nat → Nat) (A : Nat → Option Addr) (c : Nat → Nat) : Prop where
  lists : Blk wr gL 86 #[.slice (AW 0) (l 0).length (cW 0), .slice (AW 1) (l 1).length (cW 1)]
  at_ : Blk wr gT 87 #[.int .i64 (i 0), .int .i64 (i 1)]
  wrt : ∀ k, k < 2 → Wr wr w5.heap.size (gw k) (A k) (c k) (formsL ((l k).take (i k))) 0
  sep : ∀ b, (A 0).map (·.block) = some b → (A 1).map (·.block) ≠ some b
  only : Only (fun b => b = gw 0 ∨ b = gw 1 ∨ b = gT) w5 wr
theorem Wr.only {S : Nat → Prop} {w w' : World} {base g c : Nat} {A : Option Addr} {xs : List UInt8} {f : Int} (h : Wr w base g A c xs f) (ho : Only S w w') (hg : ¬ S g) (hA : ∀ b, A.map (·.block) = some b → ¬ S b) : Wr w' base g A c xs f :=
  ⟨h.blk.only ho hg, Own.only h.own ho fun b o e => hA b (by rw [e]; rfl)⟩
theorem Two.below {w5 wr wr' : World} {gL gT : Nat} {gw : Nat → Nat} {l : Nat → List Item} {AW : Nat → Option Addr} {cW i : Nat → Nat} {A : Nat → Option Addr} {c : Nat → Nat} (h : Two w5 wr gL gT gw l AW cW i A c) (hb : Below wr.heap.size wr wr') : Two w5 wr' gL gT gw l AW cW i A c :=
  ⟨h.lists.below hb h.lists.lt, h.at_.below hb h.at_.lt, fun k hk => (h.wrt k hk).below hb, h.sep, h.only.trans (Only.of_fresh hb)⟩
theorem Two.cellT {w5 wr : World} {gL gT : Nat} {gw : Nat → Nat} {l : Nat → List Item} {AW : Nat → Option Addr} {cW i : Nat → Nat} {A : Nat → Option Addr} {c : Nat → Nat} (h : Two w5 wr gL gT gw l AW cW i A c) (k : Nat) (hk : k < 2) : wr.cell? ⟨gT, k, none⟩ = some (.int .i64 (i k)) ∧ wr.frozen? ⟨gT, k, none⟩ = false := by
  rcases (show k = 0 ∨ k = 1 by omega) with rfl | rfl
  · exact ⟨h.at_.cell 0, h.at_.frozen 0⟩
  · exact ⟨h.at_.cell 1, h.at_.frozen 1⟩
theorem Two.cellL {w5 wr : World} {gL gT : Nat} {gw : Nat → Nat} {l : Nat → List Item} {AW : Nat → Option Addr} {cW i : Nat → Nat} {A : Nat → Option Addr} {c : Nat → Nat} (h : Two w5 wr gL gT gw l AW cW i A c) (k : Nat) (hk : k < 2) : wr.cell? ⟨gL, k, none⟩ = some (.slice (AW k) (l k).length (cW k)) := by
  rcases (show k = 0 ∨ k = 1 by omega) with rfl | rfl
  · exact h.lists.cell 0
  · exact h.lists.cell 1
theorem Two.step {w5 wr w6 w8 : World} {gL gT : Nat} {gw : Nat → Nat} {l : Nat → List Item} {AW : Nat → Option Addr} {cW i : Nat → Nat} {A : Nat → Option Addr} {c : Nat → Nat} (h : Two w5 wr gL gT gw l AW cW i A c)
    (hd1 : gL < gw 0) (hd2 : gw 0 < gw 1) (hd3 : gw 1 < gT) (hd4 : gT < w5.heap.size) {k : Nat} (hk : k < 2) (hlt : i k < (l k).length) {A3 : Option Addr} {c3 : Nat}
    (hW : Wr w6 w5.heap.size (gw k) A3 c3 (formsL ((l k).take (i k)) ++ itemL (l k)[i k]) 0) (hA3 : ∀ b, A3.map (·.block) = some b → (A k).map (·.block) = some b ∨ wr.heap.size ≤ b) (hO : Only (wrS (gw k) (A k)) wr w6)
    (hB : Below w6.heap.size (w6.setCell ⟨gT, k, none⟩ (.int .i64 ((i k + 1 : Nat) : Int))) w8) :
    Two w5 w8 gL gT gw l AW cW (fun j => if j = k then i k + 1 else i j) (fun j => if j = k then A3 else A j) (fun j => if j = k then c3 else c j) := by
  have hz5 := h.only.size
  have hgk : gw k < gT ∧ gL < gw k := by rcases (show k = 0 ∨ k = 1 by omega) with rfl | rfl <;> omega
  have hAk := (h.wrt k hk).lenA
  have hA3' : ∀ b, A3.map (·.block) = some b → w5.heap.size ≤ b := fun b e => by
    rcases hA3 b e with e | e
    · exact (hAk b e).1
    · omega
  have hS : ∀ b, b < w5.heap.size → b ≠ gw k → ¬ wrS (gw k) (A k) b := fun b hb hn e => by
    rcases e with e | e
    · exact hn e
    · have := (hAk b e).1; omega
  have hOT : Only (fun b => b = gT) w6 (w6.setCell ⟨gT, k, none⟩ (.int .i64 ((i k + 1 : Nat) : Int))) := (Only.refl (fun b => b = gT) w6).setCell (p := ⟨gT, k, none⟩) (.inl rfl) _
  have hz7 := hOT.size
  have hz6 := hO.size
  have hz7' : (w6.setCell ⟨gT, k, none⟩ (.int .i64 ((i k + 1 : Nat) : Int))).heap.size = w6.heap.size := by simp
  have hB7 : Below (w6.setCell ⟨gT, k, none⟩ (.int .i64 ((i k + 1 : Nat) : Int))).heap.size (w6.setCell ⟨gT, k, none⟩ (.int .i64 ((i k + 1 : Nat) : Int))) w8 := hB.mono (by omega)
  have hL7 := (h.lists.only hO (hS _ (by omega) (by omega))).only hOT (by omega)
  have hat6 := h.at_.only hO (hS _ (by omega) (by omega))
  have hW7 := (hW.only hOT (by omega) (fun b e e2 => by have := hA3' b e; omega)).below hB7
  refine ⟨hL7.below hB7 hL7.lt, ?_, ?_, ?_, ?_⟩
  · rcases (show k = 0 ∨ k = 1 by omega) with rfl | rfl
    · have h2 := Blk.setL (cs := [.int .i64 (i 0), .int .i64 (i 1)]) hat6 0 (.int .i64 ((i 0 + 1 : Nat) : Int))
      exact h2.below hB7 h2.lt
    · have h2 := Blk.setL (cs := [.int .i64 (i 0), .int .i64 (i 1)]) hat6 1 (.int .i64 ((i 1 + 1 : Nat) : Int))
      exact h2.below hB7 h2.lt
  · intro j hj
    by_cases hjk : j = k
    · subst hjk
      rw [if_pos rfl, if_pos rfl, if_pos rfl]
      have e : formsL ((l j).take (i j + 1)) = formsL ((l j).take (i j)) ++ itemL (l j)[i j] := by
        unfold formsL
        rw [List.take_succ_eq_append_getElem hlt, List.flatMap_append]
        simp
      rw [e]
      exact hW7
    · rw [if_neg hjk, if_neg hjk, if_neg hjk]
      have hWj := h.wrt j hj
      have hgj : gw j < gT ∧ gw j ≠ gw k := by
        rcases (show k = 0 ∨ k = 1 by omega) with rfl | rfl <;> rcases (show j = 0 ∨ j = 1 by omega) with rfl | rfl <;> omega
      refine ((hWj.only hO (hS _ (by omega) hgj.2) fun b e e2 => ?_).only hOT (by omega) fun b e e2 => by have := (hWj.lenA b e).1; omega).below hB7
      rcases e2 with e2 | e2
      · have := (hWj.lenA b e).1; omega
      · rcases (show k = 0 ∨ k = 1 by omega) with rfl | rfl <;> rcases (show j = 0 ∨ j = 1 by omega) with rfl | rfl
        · exact hjk rfl
        · exact h.sep b e2 e
        · exact h.sep b e e2
        · exact hjk rfl
  · intro b e e2
    rcases (show k = 0 ∨ k = 1 by omega) with rfl | rfl
    · have e' : A3.map (·.block) = some b := e
      have e2' : (A 1).map (·.block) = some b := e2
      rcases hA3 b e' with h1 | h1
      · exact h.sep b h1 e2'
      · have := ((h.wrt 1 (by omega)).lenA b e2').2.1; omega
    · have e' : (A 0).map (·.block) = some b := e
      have e2' : A3.map (·.block) = some b := e2
      rcases hA3 b e2' with h1 | h1
      · exact h.sep b e' h1
      · have := ((h.wrt 0 (by omega)).lenA b e').2.1; omega
  · refine ((h.only.more hO fun b hb e => ?_).trans (hOT.mono fun b _ e => .inr (.inr e))).trans (Only.of_fresh hB7)
    rcases e with e | e
    · rcases (show k = 0 ∨ k = 1 by omega) with rfl | rfl
      · exact .inl e
      · exact .inr (.inl e)
    · have := (hAk b e).1; omega
end Go.Proofs.Ytefaapcekbgjoaa
