/- Lists of the call's own: a cell of them, a store to them. -/
import Derived.Test.YtcmpmhlcfalbhaaBaseK
namespace Go.Proofs.Ytcmpmhlcfalbhaa
open Go.RowKit

theorem own_set {w : World} {e : TypeId} {base size g n c : Nat} {vs : List Value} (h : Own w base e size (some ⟨g, 0, none⟩) n c vs) (j : Nat) (u : Value) : Own (w.setCell ⟨g, j, none⟩ u) base e size (some ⟨g, 0, none⟩) n c (vs.set j u) := by
  obtain ⟨hl, h2⟩ := h
  rcases h2 with ⟨hv, _⟩ | ⟨g', cap, cur, hv, hg, hh, hnc, hcm, hcs, htake⟩
  · injection hv with h1; cases h1
  · injection hv with h1 h2 h3
    cases h1
    subst h3
    have hb : Blk w g e cur.toList.toArray := by simpa [Blk] using hh
    have hb2 := Blk.setL (cs := cur.toList) hb j u
    refine ⟨by simpa using hl, .inr ⟨g, c, (cur.toList.set j u).toArray, rfl, hg, hb2, hnc, hcm, by simpa using hcs, ?_⟩⟩
    show (cur.toList.set j u).take (n * size) = vs.set j u
    rw [List.take_set, htake]
theorem own_at {w : World} {e : TypeId} {base size g n c : Nat} {vs : List Value} (h : Own w base e size (some ⟨g, 0, none⟩) n c vs) (j : Nat) (hj : j < vs.length) : w.cell? ⟨g, j, none⟩ = some vs[j] ∧ w.frozen? ⟨g, j, none⟩ = false ∧ g < w.heap.size := by
  have hlt := (Own.row h g rfl).2
  obtain ⟨hl, h2⟩ := h
  rcases h2 with ⟨hv, _⟩ | ⟨g', cap, cur, hv, hg, hh, hnc, hcm, hcs, htake⟩
  · injection hv with h1; cases h1
  · injection hv with h1 h2 h3
    cases h1
    subst h3
    have hb : Blk w g e cur.toList.toArray := by simpa [Blk] using hh
    refine ⟨?_, hb.frozen j, hlt⟩
    rw [hb.at_]
    have h3 : vs[j]? = some vs[j] := List.getElem?_eq_getElem hj
    have h4 : cur.toList[j]? = (cur.toList.take (n * size))[j]? := by rw [List.getElem?_take, if_pos (by omega)]
    rw [h4, htake]
    exact h3
theorem own_some {w : World} {e : TypeId} {base size n c : Nat} {A : Option Addr} {vs : List Value} (h : Own w base e size A n c vs) (hn : 0 < n) : ∃ g, A = some ⟨g, 0, none⟩ ∧ base ≤ g ∧ g < w.heap.size := by
  rcases h.2 with ⟨hv, h0⟩ | ⟨g', cap, cur, hv, hg, hh, hnc, hcm, hcs, htake⟩
  · omega
  · injection hv with h1
    exact ⟨g', h1, hg, (Array.getElem?_eq_some_iff.1 hh).1⟩
/-- Rows of unlike elements lie in unlike blocks. -/
theorem own_ne {w : World} {b1 b2 s1 s2 n1 n2 c1 c2 : Nat} {e1 e2 : TypeId} {A1 A2 : Option Addr} {v1 v2 : List Value} (h1 : Own w b1 e1 s1 A1 n1 c1 v1) (h2 : Own w b2 e2 s2 A2 n2 c2 v2) (hne : e1 ≠ e2) (b : Nat) (e : A1.map (·.block) = some b) : A2.map (·.block) ≠ some b := by
  intro e'
  rcases h1.2 with ⟨hv, _⟩ | ⟨g, cap, cur, hv, _, hh, _⟩
  · injection hv with h; rw [h] at e; cases e
  rcases h2.2 with ⟨hv', _⟩ | ⟨g', cap', cur', hv', _, hh', _⟩
  · injection hv' with h; rw [h] at e'; cases e'
  injection hv with h _ _
  injection hv' with h' _ _
  rw [h] at e
  rw [h'] at e'
  injection e with e
  injection e' with e'
  dsimp only at e e'
  subst e e'
  rw [hh] at hh'
  injection hh' with hh'
  injection hh' with _ ht
  exact hne ht
end Go.Proofs.Ytcmpmhlcfalbhaa
