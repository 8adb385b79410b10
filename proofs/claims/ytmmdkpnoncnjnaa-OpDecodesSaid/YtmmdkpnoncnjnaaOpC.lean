/- Contracts of package op: row, place. -/
import Derived.Test.YtmmdkpnoncnjnaaOpA
import Derived.Test.YtmmdkpnoncnjnaaOpTab
namespace Go.Proofs.Ytmmdkpnoncnjnaa
open Go.RowKit

theorem row_out (g n : Nat) (i : Int) (w : World) (h : ¬ (0 ≤ i ∧ i < n)) :
    Calls Try.prog 33 #[.slice (some ⟨g, 0, none⟩) n n, .int .i64 i] w fun e w' => e = .returned (.tuple #[rowVal ([], 0, 0, 0), .bool false]) ∧ Below w.heap.size w w' := by
  by_cases h0 : i < 0
  · go_enter Try.func33, Try.ntmps33
    go_wp2
    refine bodyPost_ret (v := .tuple #[rowVal ([], 0, 0, 0), .bool false]) ?_ rfl ⟨rfl, ?_⟩
    · simp [results, Try.results33, go_sem, rowVal]
    · exact ((Below.refl _ _).alloc (Nat.le_refl _) _)
  · have h1 : ¬ i < (n : Int) := by omega
    go_enter Try.func33, Try.ntmps33
    go_wp2
    refine bodyPost_ret (v := .tuple #[rowVal ([], 0, 0, 0), .bool false]) ?_ rfl ⟨rfl, ?_⟩
    · simp [results, Try.results33, go_sem, rowVal]
    · exact ((Below.refl _ _).alloc (Nat.le_refl _) _)

theorem row_in (g n i : Nat) (w : World) (r : List UInt8 × Int × Int × Int) (h : i < n) (_hn : n ≤ 1000) (hg : g < w.heap.size)
    (hc0 : w.cell? ⟨g, i * 4, none⟩ = some (.string ⟨r.1.toArray⟩)) (hc1 : w.cell? ⟨g, i * 4 + 1, none⟩ = some (.int .i64 r.2.1))
    (hc2 : w.cell? ⟨g, i * 4 + 2, none⟩ = some (.int .i64 r.2.2.1)) (hc3 : w.cell? ⟨g, i * 4 + 3, none⟩ = some (.int .i64 r.2.2.2)) :
    Calls Try.prog 33 #[.slice (some ⟨g, 0, none⟩) n n, .int .i64 i] w fun e w' => e = .returned (.tuple #[rowVal r, .bool true]) ∧ Below w.heap.size w w' := by
  have h0 : ¬ (i : Int) < 0 := by omega
  have h1 : (i : Int) < (n : Int) := by omega
  go_enter Try.func33, Try.ntmps33
  go_wp2
  refine bodyPost_ret (v := .tuple #[rowVal r, .bool true]) ?_ rfl ⟨rfl, ?_⟩
  · simp [results, Try.results33, go_sem, rowVal]
  · exact ((Below.refl _ _).alloc (Nat.le_refl _) _)

/-- Block g of the world holds the rows of a table. -/
def TabAt (w : World) (g : Nat) (t : List (List UInt8 × Int × Int × Int)) : Prop := w.heap[g]? = some (.cells (tabCells t).toArray 23)

theorem TabAt.lt {w : World} {g : Nat} {t : List (List UInt8 × Int × Int × Int)} (h : TabAt w g t) : g < w.heap.size := by
  rcases Nat.lt_or_ge g w.heap.size with hlt | hge
  · exact hlt
  · unfold TabAt at h; rw [Array.getElem?_eq_none hge] at h; cases h

theorem TabAt.cell {w : World} {g : Nat} {t : List (List UInt8 × Int × Int × Int)} (h : TabAt w g t) {i j : Nat} {r : List UInt8 × Int × Int × Int} (hi : t[i]? = some r) (hj : j < 4) :
    w.cell? ⟨g, i * 4 + j, none⟩ = (rowCells r)[j]? := by
  unfold TabAt at h
  simp only [World.cell?, h]
  rw [← tabCells_get t i j r hi hj]
  simp [Nat.mul_comm]

theorem TabAt.below {w w' : World} {g : Nat} {t : List (List UInt8 × Int × Int × Int)} (h : TabAt w g t) (hb : Below w.heap.size w w') : TabAt w' g t := (hb.block g h.lt).trans h

/-- What 'row' tells: the row of a number, or none. -/
def rowAt (t : List (List UInt8 × Int × Int × Int)) (i : Int) : (List UInt8 × Int × Int × Int) × Bool :=
  if 0 ≤ i then (match t[i.toNat]? with | some r => (r, true) | none => (([], 0, 0, 0), false)) else (([], 0, 0, 0), false)

theorem row_any (g n : Nat) (i : Int) (w : World) (t : List (List UInt8 × Int × Int × Int)) (hn : n = t.length) (hl : n ≤ 1000) (ht : TabAt w g t) :
    Calls Try.prog 33 #[.slice (some ⟨g, 0, none⟩) n n, .int .i64 i] w fun e w' => e = .returned (.tuple #[rowVal (rowAt t i).1, .bool (rowAt t i).2]) ∧ Below w.heap.size w w' := by
  by_cases h : 0 ≤ i ∧ i < n
  · obtain ⟨h0, h1⟩ := h
    obtain ⟨k, rfl⟩ := Int.eq_ofNat_of_zero_le h0
    have hk : k < t.length := by omega
    have hr : t[k]? = some t[k] := List.getElem?_eq_getElem hk
    have e : rowAt t k = (t[k], true) := by simp [rowAt, hr]
    rw [e]
    exact row_in g n k w t[k] (by omega) hl ht.lt (ht.cell (j := 0) hr (by omega)) (ht.cell (j := 1) hr (by omega)) (ht.cell (j := 2) hr (by omega)) (ht.cell (j := 3) hr (by omega))
  · have e : rowAt t i = (([], 0, 0, 0), false) := by
      unfold rowAt
      split
      · rw [List.getElem?_eq_none (by omega)]
      · rfl
    rw [e]
    exact row_out g n i w h

/-- Where a name stands, from a place on. -/
def placeFrom (nm : List UInt8) : List (List UInt8 × Int × Int × Int) → Nat → Int × Bool
  | [], _ => (0, false)
  | r :: t, k => if r.1 == nm then ((k : Int), true) else placeFrom nm t (k + 1)

theorem placeFrom_hit (nm : List UInt8) (t : List (List UInt8 × Int × Int × Int)) (k : Nat) (h : k < t.length) (he : (t[k].1 == nm) = true) :
    placeFrom nm (t.drop k) k = ((k : Int), true) := by
  rw [List.drop_eq_getElem_cons h]; simp only [placeFrom, he, if_true]
theorem placeFrom_miss (nm : List UInt8) (t : List (List UInt8 × Int × Int × Int)) (k : Nat) (h : k < t.length) (he : (t[k].1 == nm) = false) :
    placeFrom nm (t.drop k) k = placeFrom nm (t.drop (k + 1)) (k + 1) := by
  rw [List.drop_eq_getElem_cons h]; simp only [placeFrom, he]; rfl
theorem placeFrom_end (nm : List UInt8) (t : List (List UInt8 × Int × Int × Int)) (k : Nat) (h : ¬ k < t.length) : placeFrom nm (t.drop k) k = (0, false) := by
  rw [List.drop_eq_nil_of_le (by omega)]; rfl

theorem place_any (g : Nat) (name : ByteArray) (w : World) (t : List (List UInt8 × Int × Int × Int)) (hl : t.length ≤ 1000) (ht : TabAt w g t) :
    Calls Try.prog 35 #[.slice (some ⟨g, 0, none⟩) t.length t.length, .string name] w fun e w' =>
      e = .returned (.tuple #[.int .i64 (placeFrom name.toList t 0).1, .bool (placeFrom name.toList t 0).2]) ∧ Below w.heap.size w w' := by
  go_enter Try.func35, Try.ntmps35
  go_wp2
  go_loopw [10] (fun i wr => ∃ k : Nat, k ≤ t.length ∧ i = .int .i64 k ∧ Below w.heap.size w wr ∧ Hid (placeFrom name.toList t 0 = placeFrom name.toList (t.drop k) k)) (fun i _ => t.length - (intOf i).toNat)
  case atStart => exact ⟨0, Nat.zero_le _, rfl, Below.refl _ _, rfl⟩
  case round =>
    obtain ⟨k, hk, rfl, hB, HP⟩ := hrel
    by_cases hlt : k < t.length
    · have hr : t[k]? = some t[k] := List.getElem?_eq_getElem (by omega)
      have ht' := ht.below hB
      have hg := ht'.lt
      have hc0 := ht'.cell (j := 0) hr (by omega)
      have hc1 := ht'.cell (j := 1) hr (by omega)
      have hc2 := ht'.cell (j := 2) hr (by omega)
      have hc3 := ht'.cell (j := 3) hr (by omega)
      simp only [rowCells, List.getElem?_cons_zero, List.getElem?_cons_succ, Nat.add_zero] at hc0 hc1 hc2 hc3
      clear hr ht'
      go_wp2
      · have he : (t[k].1 == name.toList) = true := by assumption
        go_ret2
        exact ⟨by rw [HP.out, placeFrom_hit _ _ _ hlt he]; rfl, hB.alloc hB.size _⟩
      · have he : (t[k].1 == name.toList) = false := by assumption
        exact ⟨⟨k + 1, by omega, by go_num, hB.alloc hB.size _, by rw [← placeFrom_miss _ _ _ hlt he]; exact HP.out⟩, by simp [intOf]; omega⟩
    · go_wp2
      go_ret2
      exact ⟨by rw [HP.out, placeFrom_end _ _ _ hlt]; rfl, hB⟩
end Go.Proofs.Ytmmdkpnoncnjnaa
