/- Contract of the law's put: one thing into the program's writer. -/
import Derived.Test.YtmmdkpnoncnjnaaLend
namespace Go.Proofs.Ytmmdkpnoncnjnaa
open Go.RowKit

/-- One thing to be put: its kind, its number, its bytes. -/
structure Item where
  kind : Int
  n : Int
  p : Part
abbrev Item.val (x : Item) : Value := .agg #[.int .i64 x.kind, .int .i64 x.n, .slice x.p.A x.p.ys.length x.p.c]
/-- The numbers fit, and the bytes are no more than memory holds. -/
structure Item.ok (x : Item) : Prop where
  k1 : -9223372036854775808 ≤ x.kind
  k2 : x.kind ≤ 9223372036854775807
  n1 : -9223372036854775808 ≤ x.n
  n2 : x.n ≤ 9223372036854775807
  len : x.p.ys.length ≤ 140737488355328
/-- What a Writer holds behind a thing. -/
def putItem (xs : List UInt8) (f : Int) (x : Item) : List UInt8 × Int :=
  if x.kind = 1 then numL xs f x.n
  else if x.kind = 2 then putL xs f (formL (foldN x.n))
  else if x.kind = 3 then putL xs f (boolL (x.n == 1))
  else if x.kind = 4 then putL xs f (formL x.p.ys.length ++ x.p.ys)
  else if x.kind = 5 then putL xs f (formL x.p.ys.length ++ x.p.ys)
  else if x.kind = 6 then putL xs f x.p.ys
  else (xs, f)

theorem Wr.refl_post {w : World} {base g : Nat} {A : Option Addr} {c : Nat} {xs : List UInt8} {f : Int} (h : Wr w base g A c xs f) : WrPost base g A w xs f w := ⟨A, c, h, fun _ hb => .inl hb, Only.refl _ _⟩
theorem WrPost.other {w w2 w3 w4 : World} {base g g1 : Nat} {A : Option Addr} {ys : List UInt8} {f : Int} (hb : Below w.heap.size w w2) (h : WrPost base g A w2 ys f w3) (hO : Only (fun k => k = g1) w3 w4) (h1 : w.heap.size ≤ g1) (h2 : g1 < w2.heap.size)
    (hn : ¬ wrS g A g1) : WrPost base g A w ys f w4 := by
  obtain ⟨A', c', hW, hA, hO1⟩ := h
  refine ⟨A', c', ⟨hW.blk.only hO fun e => hn (.inl e.symm), Own.only hW.own hO fun _ _ hA' e => ?_⟩, fun b hb' => (hA b hb').imp id fun h => Nat.le_trans hb.size h, ?_⟩
  · subst e
    rcases hA _ (by rw [hA']; rfl) with h | h
    · exact hn (.inr h)
    · dsimp only at h
      omega
  · exact ((Only.of_fresh hb).trans hO1).more hO fun k hk e => by omega
theorem lent_sl {w : World} {g M : Nat} {ys : List UInt8} (hblk : Blk w g 5 (lentL ys M M).toArray) : Sl w ⟨some ⟨g, 0, none⟩, ys.length + M, ys⟩ := by
  refine ⟨?_, fun h => by cases h⟩
  have h1 : RV w (some ⟨g, 0, none⟩) (lentL ys M M) := by simpa using RV.of_blk hblk
  have h2 := h1.cut 0 ys.length
  simpa [lentL] using h2


end Go.Proofs.Ytmmdkpnoncnjnaa
