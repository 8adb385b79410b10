/- Rows of lists of the call's own, one behind the other: plain. -/
import Derived.Test.YtcmpmhlcfalbhaaGenL
namespace Go.Proofs.Ytcmpmhlcfalbhaa
open Go.RowKit

structure SoleG (w : World) (B : Nat) (e : TypeId) (sz : Nat) (qs : List (LG × List Value)) : Prop where
  own : ∀ q ∈ qs, Own w B e sz q.1.A q.1.n q.1.c q.2
  sole : ∀ (i j : Nat) (p r : LG × List Value), qs[i]? = some p → qs[j]? = some r → i ≠ j → ∀ b, p.1.A.map (·.block) = some b → r.1.A.map (·.block) ≠ some b
theorem SoleG.nil (w : World) (B : Nat) (e : TypeId) (sz : Nat) : SoleG w B e sz [] := ⟨(fun f h => by cases h), (fun i j f g h => by cases h)⟩
theorem SoleG.only {S : Nat → Prop} {w w' : World} {B : Nat} {e : TypeId} {sz : Nat} {qs : List (LG × List Value)} (h : SoleG w B e sz qs) (ho : Only S w w') (hS : ∀ q ∈ qs, ∀ b, q.1.A.map (·.block) = some b → ¬ S b) : SoleG w' B e sz qs :=
  ⟨fun q hq => Own.only (h.own q hq) ho fun b o e => hS q hq b (by rw [e]; rfl), h.sole⟩
theorem SoleG.below {w w' : World} {B : Nat} {e : TypeId} {sz : Nat} {qs : List (LG × List Value)} (h : SoleG w B e sz qs) (hb : Below w.heap.size w w') : SoleG w' B e sz qs := h.only (S := fun _ => False) (Only.of_fresh hb) fun _ _ _ _ h => h
theorem SoleG.lt {w : World} {B : Nat} {e : TypeId} {sz : Nat} {qs : List (LG × List Value)} (h : SoleG w B e sz qs) : ∀ q ∈ qs, ∀ b, q.1.A.map (·.block) = some b → B ≤ b ∧ b < w.heap.size := fun q hq b e => Own.row (h.own q hq) b e
theorem SoleG.push {w : World} {B B2 : Nat} {e : TypeId} {sz : Nat} {qs : List (LG × List Value)} (h : SoleG w B e sz qs) {x : LG × List Value} (hx : Own w B2 e sz x.1.A x.1.n x.1.c x.2) (hb : B ≤ B2) (hlt : ∀ q ∈ qs, ∀ b, q.1.A.map (·.block) = some b → b < B2) : SoleG w B e sz (qs ++ [x]) := by
  have hxb : ∀ b, x.1.A.map (·.block) = some b → B2 ≤ b := fun b e => (Own.row hx b e).1
  refine ⟨fun f hf => ?_, fun i j f g hi hj hij b hb1 hb2 => ?_⟩
  · rw [List.mem_append, List.mem_singleton] at hf
    rcases hf with hf | rfl
    · exact h.own f hf
    · exact hx.mono hb
  · have key : ∀ (k : Nat) (y : LG × List Value), (qs ++ [x])[k]? = some y → qs[k]? = some y ∨ (k = qs.length ∧ y = x) := by
      intro k y hk
      by_cases h1 : k < qs.length
      · rw [List.getElem?_append_left h1] at hk; exact .inl hk
      · rw [List.getElem?_append_right (by omega)] at hk
        obtain h2 | h2 : k - qs.length = 0 ∨ 0 < k - qs.length := by omega
        · rw [h2] at hk
          injection hk with hk
          exact .inr ⟨by omega, hk.symm⟩
        · rw [List.getElem?_eq_none (by rw [List.length_singleton]; exact h2)] at hk
          cases hk
    rcases key i f hi with h1 | ⟨h1, rfl⟩
    · rcases key j g hj with h2 | ⟨h2, rfl⟩
      · exact h.sole i j f g h1 h2 hij b hb1 hb2
      · have := hlt f (List.mem_of_getElem? h1) b hb1
        have := hxb b hb2
        omega
    · rcases key j g hj with h2 | ⟨h2, rfl⟩
      · have := hlt g (List.mem_of_getElem? h2) b hb2
        have := hxb b hb1
        omega
      · omega
theorem SoleG.push2 {w0 w : World} {B b1 b2 : Nat} {e : TypeId} {sz : Nat} {qs : List (LG × List Value)} (h0 : SoleG w0 B e sz qs) (h : SoleG w B e sz qs) {x y : LG × List Value} (hx : Own w b1 e sz x.1.A x.1.n x.1.c x.2) (hy : Own w b2 e sz y.1.A y.1.n y.1.c y.2)
    (hB : B ≤ w0.heap.size) (hb1 : w0.heap.size ≤ b1) (h12 : b1 ≤ b2) (hxlt : ∀ b, x.1.A.map (·.block) = some b → b < b2) : SoleG w B e sz (qs ++ [x, y]) := by
  have h1 := h.push hx (by omega) fun q hq b e => by have := (h0.lt q hq b e).2; omega
  have h2 := h1.push hy (by omega) fun q hq b e => by
    rcases List.mem_append.1 hq with hq | hq
    · have := (h0.lt q hq b e).2; omega
    · obtain rfl : q = x := by simpa using hq
      exact hxlt b e
  rwa [List.append_assoc] at h2
def hdrs (qs : List (LG × List Value)) : List Value := qs.map fun q => LG.val q.1
theorem hdrs_len (qs : List (LG × List Value)) : (hdrs qs).length = qs.length := by unfold hdrs; rw [List.length_map]
/-- From a row of lists to what Grown asks. -/
theorem SoleG.lists {w : World} {B b0 : Nat} {e rowT : TypeId} {sz c : Nat} {qs : List (LG × List Value)} {A : Option Addr} (h : SoleG w B e sz qs) (hr : Own w b0 rowT 1 A qs.length c (hdrs qs)) (hne : rowT ≠ e) (hm : qs.length ≤ 64) (hs : ∀ q ∈ qs, q.1.n ≤ 2000000) :
    ListsG w B e sz A (qs.map (·.1)) (fun t => ((qs[t]?).map (·.2)).getD []) := by
  have hget : ∀ (t : Nat) (p : LG), (qs.map (·.1))[t]? = some p → ∃ q : LG × List Value, qs[t]? = some q ∧ q.1 = p := fun t p hp => by
    rw [List.getElem?_map] at hp
    obtain ⟨q, h1, h2⟩ := Option.map_eq_some_iff.1 hp
    exact ⟨q, h1, h2⟩
  refine ⟨?_, fun t p hp => ?_, fun i j p r hij hp hr' => ?_, fun p hp b o e1 e2 => ?_, by rw [List.length_map]; exact hm, fun e1 => ?_, fun p hp => ?_⟩
  · have h1 := RV.of_own hr
    unfold hdrs at h1
    rw [List.map_map]
    exact h1
  · obtain ⟨q, h1, rfl⟩ := hget t p hp
    rw [h1]
    exact h.own q (List.mem_of_getElem? h1)
  · obtain ⟨q, h1, rfl⟩ := hget i p hp
    obtain ⟨q', h2, rfl⟩ := hget j r hr'
    exact h.sole i j q q' h1 h2 hij
  · obtain ⟨q, h1, rfl⟩ := List.mem_map.1 hp
    exact ownG_ne hr (h.own q h1) hne b (by rw [e1]; rfl) e2
  · rw [List.length_map]
    rcases hr.2 with ⟨-, h0⟩ | ⟨g, cap, cur, hv, -⟩
    · exact h0
    · injection hv with h1; rw [e1] at h1; cases h1
  · obtain ⟨q, h1, rfl⟩ := List.mem_map.1 hp
    exact hs q h1
end Go.Proofs.Ytcmpmhlcfalbhaa
