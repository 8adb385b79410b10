/- Arrays of bytes are compared; two texts of bytes are compared by the library's entry. -/
import Derived.Test.YtmlkfkpffbbfaaaArms
import Derived.ChangeKeysEq
import Derived.Lib.BytesEntry
import Derived.Laws.Externs
namespace Go.Proofs.Ytmlkfkpffbbfaaa
open Go.RowKit

section
variable {P : Program}
theorem cell_mk (b o j : Nat) : (⟨b, o, none⟩ : Addr).add j = ⟨b, o + j, none⟩ := addr_add b o j
theorem bytesOf_nat (ys : List UInt8) : Lib.bytesOf (ys.map fun u => (u.toNat : Int)) = ys := by
  unfold Lib.bytesOf
  rw [List.map_map]
  conv => rhs; rw [← List.map_id ys]
  exact List.map_congr_left fun u _ => by simp
/-- What the library's entries read of a slice of bytes. -/
theorem run_bytesOf {w : World} {A : Option Addr} {c : Nat} {ys : List UInt8} (hr : RV w A (ys.map bv)) : (Extern.Bytes.bytesOf (.slice A ys.length c)).run P w = .ok ⟨ys.toArray⟩ w := by
  rcases Nat.eq_zero_or_pos ys.length with h0 | h0
  · obtain rfl : ys = [] := List.eq_nil_of_length_eq_zero h0
    cases A with
    | none => rfl
    | some a => rfl
  · obtain ⟨b, o, rfl, hb, hc⟩ := hr.at_ (by rw [List.length_map]; exact h0)
    have h1 := Lib.run_loadBytesX (P := P) w (ys.map fun u => (u.toNat : Int)) ⟨b, o, none⟩ .empty (fun j x hj => by
      rw [addr_add]
      rw [List.getElem?_map] at hj
      obtain ⟨u, hu, rfl⟩ := Option.map_eq_some_iff.1 hj
      exact hc j (bv u) (by rw [List.getElem?_map, hu]; rfl))
    rw [bytesOf_nat, List.length_map] at h1
    unfold Extern.Bytes.bytesOf
    rw [h1]
    congr 1
    apply ByteArray.ext
    show (#[] : Array UInt8) ++ ys.toArray = ys.toArray
    simp
theorem run_compareB {w : World} {A1 A2 : Option Addr} {c1 c2 : Nat} {xs ys : List UInt8} (h1 : RV w A1 (xs.map bv)) (h2 : RV w A2 (ys.map bv)) :
    (Extern.BytealgCompare.compare #[.slice A1 xs.length c1, .slice A2 ys.length c2]).run P w = .ok (.int .i64 (Lib.compareBytes xs ys)) w := by
  change Sem.run P (do pure (goInt (Extern.BytealgCompare.cmp (← Extern.Bytes.bytesOf (.slice A1 xs.length c1)) (← Extern.Bytes.bytesOf (.slice A2 ys.length c2))))) w = _
  simp only [Sem.run_bind, Sem.run_pure, run_bytesOf h1, run_bytesOf h2, Result.andThen]
  rw [Lib.cmp_eq]
  rfl

theorem run_items {w : World} {e : TypeId} {k : IntKind} (he : P.underlying e = some (.int k)) (d : Nat) (xs ys : List UInt8) : ∀ (is : List Nat), (∀ i ∈ is, i < xs.length ∧ i < ys.length) →
    (Op.eqItems (d + 1) e 1 (xs.map bv).toArray (ys.map bv).toArray is).run P w = .ok (is.all fun i => xs[i]? == ys[i]?) w
  | [], _ => rfl
  | i :: is, h => by
    obtain ⟨h1, h2⟩ := h i (List.mem_cons_self ..)
    have hp : P.plainKey e = true := by unfold Program.plainKey; rw [he]
    have p1 := run_part_plain (P := P) w hp (xs := (xs.map bv).toArray) (off := i * 1) (v := bv xs[i]) (by simp [List.getElem?_eq_getElem h1])
    have p2 := run_part_plain (P := P) w hp (xs := (ys.map bv).toArray) (off := i * 1) (v := bv ys[i]) (by simp [List.getElem?_eq_getElem h2])
    have p3 : (Op.equalIn (d + 1) e (bv xs[i]) (bv ys[i])).run P w = .ok (xs[i] == ys[i]) w := by
      unfold bv
      rw [run_equalIn_int w d e .u8 k _ _ he]
      congr 1
      rw [Bool.eq_iff_iff, beq_iff_eq, beq_iff_eq, ← UInt8.toNat_inj]
      omega
    have ih := run_items (w := w) he d xs ys is fun j hj => h j (List.mem_cons_of_mem _ hj)
    simp only [Op.eqItems, Sem.run_bind, p1, p2, p3, Result.andThen_ok, List.all_cons, List.getElem?_eq_getElem h1, List.getElem?_eq_getElem h2]
    by_cases hxy : xs[i] = ys[i]
    · have h3 : (!ys[i] == ys[i]) = false := by simp
      rw [hxy, h3, if_neg (by decide), ih]; simp
    · have : (xs[i] == ys[i]) = false := by simpa using hxy
      rw [this]; simp [hxy]
theorem all_eq {xs ys : List UInt8} {n : Nat} (h1 : xs.length = n) (h2 : ys.length = n) : ((List.range n).all fun i => xs[i]? == ys[i]?) = decide (xs = ys) := by
  rw [Bool.eq_iff_iff, List.all_eq_true, decide_eq_true_iff]
  constructor
  · intro h
    apply List.ext_getElem?
    intro i
    rcases Nat.lt_or_ge i n with hi | hi
    · simpa using h i (List.mem_range.2 hi)
    · rw [List.getElem?_eq_none (by omega), List.getElem?_eq_none (by omega)]
  · rintro rfl i _
    simp
theorem run_eqArr {w : World} {t e : TypeId} {k : IntKind} {n : Nat} (ht : P.underlying t = some (.array n e)) (he : P.underlying e = some (.int k)) (hs : (P.info? e).map (·.size) = some 1) {xs ys : List UInt8} (h1 : xs.length = n) (h2 : ys.length = n) :
    (Op.equalIn 10000 t (.agg (xs.map bv).toArray) (.agg (ys.map bv).toArray)).run P w = .ok (decide (xs = ys)) w := by
  obtain ⟨i, hi, hs1⟩ := Option.map_eq_some_iff.1 hs
  have hc : P.cellsOf e = 1 := by unfold Program.cellsOf; rw [hi]; exact hs1
  rw [run_equalIn_array w 9999 _ _ ht hi, hc, run_items he 9998 xs ys _ fun j hj => by have := List.mem_range.1 hj; omega, all_eq h1 h2]
theorem run_eqlArr {w : World} {t e : TypeId} {k : IntKind} {n : Nat} (ht : P.underlying t = some (.array n e)) (he : P.underlying e = some (.int k)) (hs : (P.info? e).map (·.size) = some 1) {xs ys : List UInt8} (h1 : xs.length = n) (h2 : ys.length = n) :
    (binOp .eql t (.agg (xs.map bv).toArray) (.agg (ys.map bv).toArray)).run P w = .ok (.bool (decide (xs = ys))) w := by
  rw [run_eql_struct, run_eqArr ht he hs h1 h2]
  rfl
theorem run_neqArr {w : World} {t e : TypeId} {k : IntKind} {n : Nat} (ht : P.underlying t = some (.array n e)) (he : P.underlying e = some (.int k)) (hs : (P.info? e).map (·.size) = some 1) {xs ys : List UInt8} (h1 : xs.length = n) (h2 : ys.length = n) :
    (binOp .neq t (.agg (xs.map bv).toArray) (.agg (ys.map bv).toArray)).run P w = .ok (.bool (!decide (xs = ys))) w := by
  rw [run_neq_struct, run_eqArr ht he hs h1 h2]
  rfl
end
end Go.Proofs.Ytmlkfkpffbbfaaa
