/- A digest that came in: what its value is. -/
import Derived.Test.YtmlkfkpffbbfaaaShaSum
import Derived.SizedLaws
import Derived.WideShapes
import Derived.ChangeShapes
namespace Go.Proofs.Ytmlkfkpffbbfaaa

theorem open_arr {P : Program} {w : World} {r : Reach} {base : Nat} {t e e8 : TypeId} {n : Nat} {v : Value} (ht : P.underlying t = some (.array n e)) (hc : P.cellsOf t = n) (hcell : P.cellTypes P.depth t = some (List.replicate n e8)) (he : P.underlying e8 = some (.int .u8))
    (h : Value.okWide P w r base t v) : ∃ l : List UInt8, v = aggB l ∧ l.length = n := by
  simp only [Value.okWide, ht] at h
  obtain ⟨cs, rfl, hs, ts, hts, -, hall⟩ := h
  rw [hcell] at hts
  cases hts
  have hcs : ∀ i (hi : i < cs.size), ∃ u : UInt8, cs[i] = bv u := by
    intro i hi
    obtain ⟨u, hu, hok⟩ := hall i cs[i] (Array.getElem?_eq_getElem hi)
    have hu2 : u = e8 := by
      obtain ⟨hlt, hr⟩ := List.getElem?_eq_some_iff.1 hu
      rw [List.getElem_replicate] at hr
      exact hr.symm
    subst hu2
    simp only [Cell.okWide, he] at hok
    generalize cs[i] = x at hok
    cases x <;> simp_all [Cell.ok]
    obtain ⟨rfl, hk⟩ := hok
    rename_i m
    have hb : 0 ≤ m ∧ m ≤ 255 := by
      simp [IntKind.has, IntKind.min, IntKind.max, IntKind.signed, IntKind.bits] at hk
      omega
    refine ⟨UInt8.ofNat m.toNat, ?_⟩
    unfold bv
    rw [UInt8.toNat_ofNat']
    congr 1
    omega
  refine ⟨(List.range n).map fun i => if h : i < cs.size then (hcs i h).choose else 0, ?_, by simp⟩
  unfold aggB
  congr 1
  apply Array.ext
  · simp [hs, hc]
  · intro i h1 h2
    have := (hcs i h1).choose_spec
    simp only [List.map_map, List.getElem_toArray, List.getElem_map, List.getElem_range, Function.comp]
    rw [dif_pos h1]
    exact this
theorem open_dig {w : World} {r : Reach} {base : Nat} {v : Value} (h : Value.okWide Try.prog w r base 28 v) : ∃ l : List UInt8, v = aggB l ∧ l.length = 32 :=
  open_arr Try.underlying28 (by kernel_rfl) (hcell := by kernel_rfl) Try.underlying5 h
end Go.Proofs.Ytmlkfkpffbbfaaa
