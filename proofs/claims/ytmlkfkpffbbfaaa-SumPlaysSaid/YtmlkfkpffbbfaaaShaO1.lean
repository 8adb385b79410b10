/- Of at one part; the law's Lend and round. -/
import Derived.Test.YtmlkfkpffbbfaaaShaLe
namespace Go.Proofs.Ytmlkfkpffbbfaaa
open Go.RowKit

theorem rv_one {w : World} {h : Nat} {v : Value} (hc : w.cell? ⟨h, 0, none⟩ = some v) (hlt : h < w.heap.size) : RV w (some ⟨h, 0, none⟩) [v] :=
  .inr ⟨h, 0, rfl, hlt, fun j u hu => by
    match j, hu with
    | 0, hu => cases hu; exact hc
    | j + 1, hu => cases hu⟩
theorem of_one (bs : List UInt8) (A : Option Addr) (c h c2 : Nat) (w : World) (hc : w.cell? ⟨h, 0, none⟩ = some (.slice A bs.length c)) (hlt : h < w.heap.size) (hr : RV w A (bs.map bv)) (hb : bs.length ≤ c) (hcm : c ≤ maxLen) (hl : bs.length ≤ 1152921504606846976) :
    Calls Try.prog 15 #[.slice (some ⟨h, 0, none⟩) 1 c2] w fun e w' => e = .returned (aggB (sha bs)) ∧ Below w.heap.size w w' := by
  have h1 := of_any [bs] (some ⟨h, 0, none⟩) c2 w ⟨[.slice A bs.length c], rv_one hc hlt, rfl, fun i hi => by
    match i, hi with
    | 0, _ => exact ⟨_, rfl, A, c, rfl, hr, hb, hcm⟩⟩ (by simpa using hl) (by unfold maxLen; simp)
  rw [show ([bs] : List (List UInt8)).flatten = bs from by simp] at h1
  exact h1
/-- .. whose header has just been laid. -/
theorem of_laid (bs : List UInt8) (A : Option Addr) (n c c2 : Nat) (w0 W : World) (T : TypeId) (hW : W.heap = (w0.alloc (.cells #[.slice A n c] T)).heap) (hn : bs.length = n) (hr : RV w0 A (bs.map bv)) (hb : bs.length ≤ c) (hcm : c ≤ maxLen) (hl : bs.length ≤ 1152921504606846976) :
    Calls Try.prog 15 #[.slice (some ⟨w0.heap.size, 0, none⟩) 1 c2] W fun e w' => e = .returned (aggB (sha bs)) ∧ Below W.heap.size W w' := by
  subst hn
  have hB : Blk W w0.heap.size T #[.slice A bs.length c] := by unfold Blk; rw [hW]; exact Blk.new w0 T _
  refine of_one bs A c w0.heap.size c2 W ?_ hB.lt ?_ hb hcm hl
  · rw [hB.cell]; rfl
  · refine hr.keep (by rw [hW]; simp) fun _ b o _ hlt => ?_
    rw [hW]
    exact Below.heap_alloc w0 _ b hlt
/-- .. at an address that is spelled otherwise; the answer laid open. -/
theorem of_laid2 (bs d : List UInt8) (hd : d = sha bs) (A : Option Addr) (n c c2 h : Nat) (w0 W : World) (T : TypeId) (hh : w0.heap.size = h) (hW : W.heap = (w0.alloc (.cells #[.slice A n c] T)).heap) (hn : bs.length = n) (hr : RV w0 A (bs.map bv)) (hb : bs.length ≤ c) (hcm : c ≤ maxLen) (hl : bs.length ≤ 1152921504606846976) :
    Calls Try.prog 15 #[.slice (some ⟨h, 0, none⟩) 1 c2] W fun e w' => e = .returned (.agg (d.map bv).toArray) ∧ Below W.heap.size W w' := by
  subst hh hd
  exact of_laid bs A n c c2 w0 W T hW hn hr hb hcm hl
theorem own_caps {w : World} {base size n c : Nat} {e : TypeId} {A : Option Addr} {vs : List Value} (h : Own w base e size A n c vs) : n ≤ c ∧ c ≤ maxLen := by
  rcases h.2 with ⟨hv, hn⟩ | ⟨g, cap, cur, hv, hg, hh, hnc, hcm, -⟩
  · injection hv with h1 h2 h3
    subst hn
    subst h3
    exact ⟨Nat.le_refl _, by unfold maxLen; omega⟩
  · injection hv with h1 h2 h3
    subst h3
    exact ⟨hnc, hcm⟩
end Go.Proofs.Ytmlkfkpffbbfaaa
