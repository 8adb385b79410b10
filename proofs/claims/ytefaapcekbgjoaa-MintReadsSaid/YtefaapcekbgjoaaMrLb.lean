/- What is told is no longer than the bytes that are read: plain. -/
import Derived.Test.YtefaapcekbgjoaaMrL
namespace Go.Proofs.Ytefaapcekbgjoaa
open Go.RowKit

theorem callR_len {c : PCall} {bs : List UInt8} {a a2 : Nat} {g : PGot} (h : callR c bs a = some (.ok (g, a2))) : g.b.length ≤ bs.length := by
  have key : ∀ {α : Type} {X : Except Int α} {φ : α → PGot × Nat}, some (X.map φ) = some (Except.ok (g, a2)) → ∃ x, X = .ok x ∧ φ x = (g, a2) := by
    intro α X φ h
    injection h with h
    cases X with
    | ok x => injection h with h; exact ⟨x, rfl, h⟩
    | error e => cases h
  unfold callR at h
  split at h
  · obtain ⟨x, -, e⟩ := key h
    injection e with e1 e2
    subst e1
    exact Nat.zero_le _
  split at h
  · obtain ⟨x, -, e⟩ := key h
    injection e with e1 e2
    subst e1
    exact Nat.zero_le _
  split at h
  · obtain ⟨x, -, e⟩ := key h
    injection e with e1 e2
    subst e1
    exact Nat.zero_le _
  split at h
  · obtain ⟨x, hx, e⟩ := key h
    injection e with e1 e2
    subst e1
    unfold rBytesL at hx
    split at hx
    · cases hx
    · split at hx
      · cases hx
      · injection hx with hx
        subst hx
        show ((bs.drop _).take _).length ≤ _
        rw [List.length_take, List.length_drop]
        omega
  split at h
  · obtain ⟨x, hx, e⟩ := key h
    injection e with e1 e2
    subst e1
    unfold rRawL at hx
    split at hx
    · cases hx
    · split at hx
      · cases hx
      · injection hx with hx
        subst hx
        show ((bs.drop _).take _).length ≤ _
        rw [List.length_take, List.length_drop]
        omega
  split at h
  · obtain ⟨x, -, e⟩ := key h
    injection e with e1 e2
    subst e1
    exact Nat.zero_le _
  split at h
  · injection h with h
    injection h with h
    injection h with e1 e2
    subst e1
    exact Nat.zero_le _
  split at h
  · split at h
    · injection h with h
      injection h with h
      injection h with e1 e2
      subst e1
      exact Nat.zero_le _
    · injection h with h
      cases h
  · cases h
theorem Runs.blen {L : List PCall} {st : PS} {k : Int} {o : POut} {M : Nat} (h : Runs L st k o) (hL : ∀ c ∈ L, c.b.length ≤ M) : (∀ r ∈ st.rs, r.1.length ≤ M) → (∀ x ∈ st.told, x.b.length ≤ M) → (∀ r ∈ o.st.rs, r.1.length ≤ M) ∧ ∀ x ∈ o.st.told, x.b.length ≤ M := by
  have hgd : ∀ (rs : List (List UInt8 × Nat)) (j : Nat), (∀ r ∈ rs, r.1.length ≤ M) → (rs.getD j ([], 0)).1.length ≤ M := fun rs j hr => by
    rw [List.getD_eq_getElem?_getD]
    cases hj : rs[j]? with
    | none => exact Nat.zero_le _
    | some r => exact hr r (List.mem_of_getElem? hj)
  induction h with
  | stop _ => exact fun h1 h2 => ⟨h1, h2⟩
  | skip _ _ _ _ _ _ ih => exact ih
  | void _ _ _ _ _ _ ih => exact ih
  | @told st k c g a o _ _ _ _ hc _ ih =>
    intro h1 h2
    refine ih (fun r hr => ?_) (fun x hx => ?_)
    · rcases List.mem_or_eq_of_mem_set (show r ∈ st.rs.set (st.jOf c) ((st.rs.getD (st.jOf c) ([], 0)).1, a) from hr) with h | h
      · exact h1 r h
      · rw [h]; exact hgd st.rs _ h1
    · rcases List.mem_append.1 (show x ∈ st.told ++ [g] from hx) with h | h
      · exact h2 x h
      · rw [List.mem_singleton.1 h]
        unfold PS.callAt at hc
        exact Nat.le_trans (callR_len hc) (hgd st.rs _ h1)
  | fell _ _ _ _ _ => exact fun h1 h2 => ⟨h1, h2⟩
  | @inOk st s2 k c o _ _ hc _ _ _ _ ih1 ih2 =>
    intro h1 h2
    obtain ⟨h3, h4⟩ := ih1 (fun r hr => by
      rcases List.mem_append.1 (show r ∈ st.rs ++ [(c.b, 0)] from hr) with h | h
      · exact h1 r h
      · rw [List.mem_singleton.1 h]; exact hL c (List.mem_of_getElem? hc)) h2
    exact ih2 (fun r hr => h3 r (List.mem_of_mem_take hr)) h4
  | @inOwn st s2 k c f o _ _ hc _ _ _ _ ih1 ih2 =>
    intro h1 h2
    obtain ⟨h3, h4⟩ := ih1 (fun r hr => by
      rcases List.mem_append.1 (show r ∈ st.rs ++ [(c.b, 0)] from hr) with h | h
      · exact h1 r h
      · rw [List.mem_singleton.1 h]; exact hL c (List.mem_of_getElem? hc)) h2
    exact ih2 (fun r hr => h3 r (List.mem_of_mem_take hr)) h4
  | @inFar st s2 k c j f _ _ hc _ _ _ _ ih =>
    intro h1 h2
    exact ih (fun r hr => by
      rcases List.mem_append.1 (show r ∈ st.rs ++ [(c.b, 0)] from hr) with h | h
      · exact h1 r h
      · rw [List.mem_singleton.1 h]; exact hL c (List.mem_of_getElem? hc)) h2
end Go.Proofs.Ytefaapcekbgjoaa
