/- In a region that draws its order: one operation, or two, that are ready. -/
import Derived.Test.YtefaapcekbgjoaaRegK
namespace Go.Proofs.Ytefaapcekbgjoaa

theorem headW_one {P : Program} {ops : Array Oper} {Q : Exit → Act → World → Prop} {S : World → Prop} {n : Nat} {L : Array Bool → Act → World → Prop} {f : Nat} {listed : Array Bool} {a : Act} {w : World} (i : Nat) {o : Oper} (hi : ops[i]? = some o) (hin : i < n) (hr : Region.ready .any ops listed = [i]) (hw : Region.wanted o (yielded ops a.tmps) = true)
    (h : ∀ K : Act → World → Prop, Shut (∀ a' w', S w' → (S w' → HeadW P ops Q S n L f (listed.setIfInBounds i true) a' w') → K a' w') → Oper.wp P o a w K Q) : HeadW P ops Q S n L (f + 1) listed a w :=
  HeadW.one i hi hin hr fun K hK => by rw [if_pos hw]; exact h K hK
theorem headW_two {P : Program} {ops : Array Oper} {Q : Exit → Act → World → Prop} {S : World → Prop} {n : Nat} {L : Array Bool → Act → World → Prop} {f : Nat} {listed : Array Bool} {a : Act} {w : World} (i j : Nat) {oi oj : Oper} (hi : ops[i]? = some oi) (hj : ops[j]? = some oj) (hin : i < n) (hjn : j < n) (hr : Region.ready .any ops listed = [i, j])
    (hwi : Region.wanted oi (yielded ops a.tmps) = true) (hwj : Region.wanted oj (yielded ops a.tmps) = true)
    (h1 : ∀ K : Act → World → Prop, Shut (∀ a' w', S w' → (S w' → HeadW P ops Q S n L f (listed.setIfInBounds i true) a' w') → K a' w') → Oper.wp P oi a w K Q)
    (h2 : ∀ K : Act → World → Prop, Shut (∀ a' w', S w' → (S w' → HeadW P ops Q S n L f (listed.setIfInBounds j true) a' w') → K a' w') → Oper.wp P oj a w K Q) : HeadW P ops Q S n L (f + 1) listed a w := fun inv => by
  refine ⟨fun h0 => (by rw [hr] at h0; cases h0), fun k hk => ?_⟩
  have hir : i ∈ Region.ready .any ops listed := by rw [hr]; simp
  have hjr : j ∈ Region.ready .any ops listed := by rw [hr]; simp
  rw [hr] at hk
  have hk2 : k = i ∨ k = j := by simpa using hk
  rcases hk2 with rfl | rfl
  · exact ⟨hin, wpOp_step hi fun K' hK => by rw [if_pos hwi]; exact h1 K' fun a' w' hS hW => hK a' w' ⟨hS, hW hS (inv.set hir hin)⟩⟩
  · exact ⟨hjn, wpOp_step hj fun K' hK => by rw [if_pos hwj]; exact h2 K' fun a' w' hS hW => hK a' w' ⟨hS, hW hS (inv.set hjr hjn)⟩⟩
end Go.Proofs.Ytefaapcekbgjoaa
