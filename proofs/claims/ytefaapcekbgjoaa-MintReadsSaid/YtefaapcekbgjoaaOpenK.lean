/- Several texts in one: Open OpenIns. -/
import Derived.ProofKit
import Derived.OpenShut
import Derived.SizedLaws
import Derived.Test.YtefaapcekbgjoaaRefK
import Derived.Test.YtefaapcekbgjoaaOpsK
namespace Go.Proofs.Ytefaapcekbgjoaa

section
/- Arguments opened: from what a row says of a reading to a list of things in memory. -/
open Go.ChangeShapes Go.WideShapes Go.ChangeAt Go.RowKit

section
variable {H : Type} {enc : TypeId × Value → H} {P : Program} {w : World} {base : Nat} {spare : Nat → Bool} {held : Bool}

/-- No part of the datum takes more than memory holds. -/
def Wt (P : Program) (t : TypeId) (d : DataW H) : Prop := ∀ n ∈ d.weights P t, n ≤ reachBytes
theorem wt_each {t : TypeId} {ts : List TypeId} {d : DataW H} {ds : List (DataW H)} (h : (DataW.weightsEach P (t :: ts) (d :: ds)).all (· ≤ reachBytes) = true) : Wt P t d ∧ (DataW.weightsEach P ts ds).all (· ≤ reachBytes) = true := by
  simp only [DataW.weightsEach, List.all_append, Bool.and_eq_true] at h
  refine ⟨fun n hn => ?_, h.2⟩
  have := List.all_eq_true.1 h.1 n hn
  simpa using this
theorem wt_slice {t e : TypeId} {es rs : List (DataW H)} (ht : P.underlying t = some (.slice e)) (h : Wt P t (.slice es rs)) : es.length * P.bytesOf e ≤ reachBytes ∧ ∀ d ∈ es, Wt P e d := by
  have key : ∀ l : List (DataW H), ∀ d ∈ l, ∀ n ∈ d.weights P e, n ∈ DataW.weightsAll P e l := by
    intro l
    induction l with
    | nil => intro d hd; cases hd
    | cons x l ih =>
      intro d hd n hn
      simp only [DataW.weightsAll, List.mem_append]
      rcases List.mem_cons.1 hd with rfl | hd
      · exact .inl hn
      · exact .inr (ih d hd n hn)
  refine ⟨?_, fun d hd n hn => h n ?_⟩
  · have h1 := h ((es.length + rs.length) * P.bytesOf e) (by simp [DataW.weights, ht])
    exact Nat.le_trans (Nat.mul_le_mul_right _ (Nat.le_add_right _ _)) h1
  · simp only [DataW.weights, ht, List.mem_cons, List.mem_append]
    exact .inr (.inl (key es d hd n hn))
theorem wt_struct {t : TypeId} {fs : Array Field} {ds : List (DataW H)} (ht : P.underlying t = some (.struct fs)) (h : Wt P t (.agg ds)) : (DataW.weightsEach P (fs.toList.map (·.type)) ds).all (· ≤ reachBytes) = true := by
  rw [List.all_eq_true]
  intro n hn
  have := h n (by simp only [DataW.weights, ht]; exact hn)
  simpa using this

theorem cells_at {a : Addr} {k : Nat} {cs : List Value} (h : w.cells? base a k = some cs) : cs.length = k ∧ ∀ j, j < k → w.cell? (a.add j) = cs[j]? := by
  obtain ⟨h1, h2, h3⟩ := World.cells?_some h
  exact ⟨h2, fun j hj => h3 j hj⟩

/-- A slice opened, its elements by a law of their own: what an element's cells are and what holds of it. -/
theorem open_sliceOf {α : Type} {t e : TypeId} (f : α → List Value) (Good : α → Prop) {k : Nat} (ht : P.underlying t = some (.slice e)) (hk : P.cellsOf e = k) (hk0 : 0 < k)
    (hel : ∀ (fuel : Nat) (cs : List Value) (x : DataW H × List MemPlace), DataW.trod enc P w base spare held fuel e cs = some x → Wt P e x.1 → ∃ y, cs = f y ∧ Good y)
    {fuel : Nat} {cs : List Value} {x : DataW H × List MemPlace} (h : DataW.trod enc P w base spare held fuel t cs = some x) (hw : Wt P t x.1) :
    ∃ (A : Option Addr) (c : Nat) (ys : List α), cs = [.slice A ys.length c] ∧ RV w A (ys.flatMap f) ∧ (A = none → ys.length = 0 ∧ c = 0) ∧ ys.length ≤ c ∧ c ≤ maxLen ∧ ys.length * P.bytesOf e ≤ reachBytes ∧ ∀ y ∈ ys, Good y := by
  rcases DataW.trod_slice ht h with ⟨rfl, _⟩ | ⟨a, len, cap, elems, rest, n, rfl, rfl, hx, hba, hlc, hcm, hlen, hcell, _, _⟩
  · exact ⟨none, 0, [], rfl, RV.nil _ _, fun _ => ⟨rfl, rfl⟩, Nat.le_refl _, by simp [maxLen], by simp, by simp⟩
  · subst hx
    obtain ⟨hb1, hb2⟩ := wt_slice ht hw
    have hex : ∀ i, i < len → ∃ y, w.cells? base (a.add (i * k)) k = some (f y) ∧ Good y := by
      intro i hi
      have h1 := hcell i hi
      rw [hk] at h1
      have hi' : i < elems.length := by omega
      rw [List.getElem?_eq_getElem hi'] at h1
      obtain ⟨cs', hc1, hc2⟩ := Option.bind_eq_some_iff.1 h1
      obtain ⟨y, hy1, hy2⟩ := hel n cs' elems[i] hc2 (hb2 _ (List.mem_map.2 ⟨elems[i], List.getElem_mem hi', rfl⟩))
      exact ⟨y, by rw [hc1, hy1], hy2⟩
    have hall : ∀ m, m ≤ len → ∃ ys : List α, ys.length = m ∧ ∀ i, i < m → ∃ y, ys[i]? = some y ∧ w.cells? base (a.add (i * k)) k = some (f y) ∧ Good y := by
      intro m
      induction m with
      | zero => exact fun _ => ⟨[], rfl, fun i hi => absurd hi (by omega)⟩
      | succ m ih =>
        intro hm
        obtain ⟨ys, hl, hy⟩ := ih (by omega)
        obtain ⟨y, hc, hgd⟩ := hex m (by omega)
        refine ⟨ys ++ [y], by simp [hl], fun i hi => ?_⟩
        rcases Nat.lt_or_ge i m with hlt | hge
        · rw [List.getElem?_append_left (by omega)]
          exact hy i hlt
        · obtain rfl : i = m := by omega
          exact ⟨y, by rw [List.getElem?_append_right (by omega), hl]; simp, hc, hgd⟩
    have hys := hall len (Nat.le_refl _)
    clear hall hex
    obtain ⟨ys, hl, hy⟩ := hys
    subst hl
    refine ⟨some a, cap, ys, rfl, ?_, fun h => (by cases h), hlc, hcm, ?_, fun y hmem => ?_⟩
    · rcases Nat.eq_zero_or_pos ys.length with h0 | h0
      · left; rw [List.eq_nil_of_length_eq_zero h0]; rfl
      · obtain ⟨y0, hy0, hc0, _⟩ := hy 0 h0
        have hf : ∀ i y, ys[i]? = some y → (f y).length = k := fun i y hi => by
          obtain ⟨y', hy', hc', _⟩ := hy i (List.getElem?_eq_some_iff.1 hi).1
          rw [hi] at hy'
          injection hy' with e
          subst e
          exact (cells_at hc').1
        have hc00 := (cells_at hc0).2 0 hk0
        have hsp : ∃ v, w.cell? (a.add (0 * k)) = some v := by
          have : 0 < (f y0).length := by rw [hf 0 y0 hy0]; exact hk0
          refine ⟨(f y0)[0], ?_⟩
          have e : (a.add (0 * k)).add 0 = a.add (0 * k) := by unfold Addr.add; simp
          rw [e] at hc00
          rw [hc00, List.getElem?_eq_getElem this]
        obtain ⟨b, off, sp⟩ := a
        obtain ⟨v, hv⟩ := hsp
        have hs0 : (⟨b, off, sp⟩ : Addr).add (0 * k) = ⟨b, off, sp⟩ := by unfold Addr.add; simp
        rw [hs0] at hv
        obtain rfl : sp = none := World.cell?_spot hv
        have hblk : b < w.heap.size := by
          have := World.cells?_block hc0 hk0
          rw [hs0] at this
          exact this
        right
        refine ⟨b, off, rfl, hblk, fun j u hu => ?_⟩
        have key : ∀ (l : List α) (o : Nat), (∀ i y, l[i]? = some y → (f y).length = k ∧ ∀ j, j < k → w.cell? ⟨b, o + i * k + j, none⟩ = (f y)[j]?) → ∀ j u, (l.flatMap f)[j]? = some u → w.cell? ⟨b, o + j, none⟩ = some u := by
          intro l
          induction l with
          | nil => intro o _ j u hu; simp at hu
          | cons y l ih =>
            intro o hl j u hu
            obtain ⟨hl1, hl2⟩ := hl 0 y rfl
            rw [List.flatMap_cons] at hu
            rcases Nat.lt_or_ge j k with hjk | hjk
            · rw [List.getElem?_append_left (by omega)] at hu
              have := hl2 j hjk
              rw [Nat.zero_mul, Nat.add_zero] at this
              rw [this]
              exact hu
            · rw [List.getElem?_append_right (by omega), hl1] at hu
              have := ih (o + k) (fun i y hi => by
                obtain ⟨h1, h2⟩ := hl (i + 1) y (by simpa using hi)
                refine ⟨h1, fun j hj => ?_⟩
                have := h2 j hj
                rw [Nat.succ_mul] at this
                rw [← this]
                congr 2
                omega) (j - k) u hu
              rw [← this]
              congr 2
              omega
        refine key ys off (fun i y hi => ⟨hf i y hi, fun j hj => ?_⟩) j u hu
        obtain ⟨y', hy', hc', _⟩ := hy i (List.getElem?_eq_some_iff.1 hi).1
        rw [hi] at hy'
        injection hy' with e
        subst e
        have := (cells_at hc').2 j hj
        rw [addr_add, addr_add] at this
        exact this
    · rw [List.length_map, hlen] at hb1
      exact hb1
    · obtain ⟨i, hi, rfl⟩ := List.mem_iff_getElem.1 hmem
      obtain ⟨y', hy', _, hgd⟩ := hy i hi
      rw [List.getElem?_eq_getElem hi] at hy'
      injection hy' with e
      rw [e]
      exact hgd

theorem flat_bv (ys : List UInt8) : ys.flatMap (fun u => [bv u]) = ys.map bv := by
  induction ys with
  | nil => rfl
  | cons y l ih => rw [List.flatMap_cons, ih]; rfl
theorem open_byte {e : TypeId} (he : P.underlying e = some (.int .u8)) {fuel : Nat} {cs : List Value} {x : DataW H × List MemPlace} (h : DataW.trod enc P w base spare held fuel e cs = some x) : ∃ u : UInt8, cs = [bv u] := by
  obtain ⟨n, rfl, _, hwf⟩ := DataW.trod_int he h
  have hb := bounds_u8 hwf
  refine ⟨UInt8.ofNat n.toNat, ?_⟩
  unfold bv
  rw [toNat_ofNat8, Nat.mod_eq_of_lt (by omega), Int.toNat_of_nonneg hb.1]

/-- A slice of bytes opened. -/
theorem open_bytesOf {t e : TypeId} (ht : P.underlying t = some (.slice e)) (he : P.underlying e = some (.int .u8)) (hk : P.cellsOf e = 1) (hby : P.bytesOf e = 1)
    {fuel : Nat} {cs : List Value} {x : DataW H × List MemPlace} (h : DataW.trod enc P w base spare held fuel t cs = some x) (hw : Wt P t x.1) :
    ∃ p : Part, cs = [.slice p.A p.ys.length p.c] ∧ Sl w p ∧ p.ys.length ≤ 140737488351232 ∧ p.ys.length ≤ p.c := by
  obtain ⟨A, c, ys, rfl, hrv, hnil, hlc, _, hb, _⟩ := open_sliceOf (fun u : UInt8 => [bv u]) (fun _ => True) ht hk (by decide) (fun fuel cs x hx _ => by
    obtain ⟨u, hu⟩ := open_byte he hx
    exact ⟨u, hu, trivial⟩) h hw
  refine ⟨⟨A, c, ys⟩, rfl, ⟨?_, hnil⟩, ?_, hlc⟩
  · rw [flat_bv] at hrv
    exact hrv
  · rw [hby, Nat.mul_one] at hb
    exact hb
theorem arg_of {t e : TypeId} (ht : P.underlying t = some (.slice e)) {r : Reach} {b : Nat} {v : Value} {d : DataW H} {ps : List MemPlace} (hv : Value.okWide P w r b t v) (h : DataW.Trod enc P w base spare held t v d ps) :
    ∃ fuel, DataW.trod enc P w base spare held fuel t [v] = some (d, ps) := by
  obtain ⟨a, l, c, rfl⟩ := okWide_slice ht hv
  exact h
theorem arg_bytes {t e : TypeId} (ht : P.underlying t = some (.slice e)) (he : P.underlying e = some (.int .u8)) (hk : P.cellsOf e = 1) (hby : P.bytesOf e = 1) {r : Reach} {b : Nat} {v : Value} {d : DataW H} {ps : List MemPlace}
    (hv : Value.okWide P w r b t v) (h : DataW.Trod enc P w base spare held t v d ps) (hw : Wt P t d) : ∃ p : Part, v = p.val ∧ Sl w p ∧ p.ys.length ≤ 140737488351232 ∧ p.ys.length ≤ p.c := by
  obtain ⟨a, l, c, rfl⟩ := okWide_slice ht hv
  obtain ⟨fuel, hf⟩ := h
  obtain ⟨p, e1, h1⟩ := open_bytesOf ht he hk hby hf hw
  exact ⟨p, by simpa [Value.cells] using e1, h1⟩
end
end

section
/- Rows of instructions and of bytes, opened. -/
open Go.ChangeShapes Go.WideShapes Go.ChangeAt Go.RowKit

theorem cells_int : Try.prog.cellsOf 3 = 1 := by kernel_rfl
theorem cells_byte : Try.prog.cellsOf 5 = 1 := by kernel_rfl
theorem bytes_byte : Try.prog.bytesOf 5 = 1 := by kernel_rfl
theorem cells_bytes : Try.prog.cellsOf 22 = 1 := by kernel_rfl
theorem two_of {α : Type} (l : List α) (h : l.length = 2) : ∃ a b, l = [a, b] := by
  match l, h with
  | [a, b], _ => exact ⟨a, b, rfl⟩
section
variable {H : Type} {enc : TypeId × Value → H} {w : World} {base : Nat} {spare : Nat → Bool} {held : Bool}
theorem fields_of {P : Program} {t : TypeId} {l : List (TypeId × Nat)} (h : (P.underlying t).map (fun d => match d with | .struct fs => fs.toList.map (fun f => (f.type, f.offset)) | _ => []) = some l) (hl : l ≠ []) :
    ∃ fs : Array Field, P.underlying t = some (.struct fs) ∧ fs.toList.map (fun f => (f.type, f.offset)) = l := by
  obtain ⟨d, hd, h1⟩ := Option.map_eq_some_iff.1 h
  cases d <;> first | exact ⟨_, hd, h1⟩ | exact absurd h1.symm hl
/-- A struct opened, field by field. -/
theorem open_fields {P : Program} {t : TypeId} {l : List (TypeId × Nat)} (hu : (P.underlying t).map (fun d => match d with | .struct fs => fs.toList.map (fun f => (f.type, f.offset)) | _ => []) = some l) (hl : l ≠ [])
    {fuel : Nat} {cs : List Value} {x : DataW H × List MemPlace} (h : DataW.trod enc P w base spare held fuel t cs = some x) (hw : Wt P t x.1) :
    cs.length = P.cellsOf t ∧ ∃ (n : Nat), ∀ (i : Nat) (ft : TypeId) (o : Nat), l[i]? = some (ft, o) → ∃ y, DataW.trod enc P w base spare held n ft ((cs.drop o).take (P.cellsOf ft)) = some y ∧ Wt P ft y.1 := by
  obtain ⟨fs, hfs, hfl⟩ := fields_of hu hl
  obtain ⟨xs, n, _, rfl, hlen, hxl, hx⟩ := DataW.trod_struct hfs h
  refine ⟨hlen, n, fun i ft o hi => ?_⟩
  rw [← hfl, List.getElem?_map] at hi
  obtain ⟨f, hf, hfe⟩ := Option.map_eq_some_iff.1 hi
  injection hfe with e1 e2
  subst e1 e2
  have hf' : fs[i]? = some f := by simpa using hf
  have hxi := hx i f hf'
  have hi' : i < xs.length := by rw [hxl]; exact (Array.getElem?_eq_some_iff.1 hf').1
  rw [List.getElem?_eq_getElem hi'] at hxi
  refine ⟨xs[i], hxi, fun m hm => ?_⟩
  have hall := wt_struct hfs hw
  have hmem := DataW.weights_mem_each (P := P) (ts := fs.toList.map (·.type)) (ds := xs.map (·.1)) (j := i) (t := f.type) (d := xs[i].1) (by rw [List.getElem?_map, hf]; rfl) (by rw [List.getElem?_map, List.getElem?_eq_getElem hi']; rfl) m hm
  have := List.all_eq_true.1 hall m hmem
  simpa using this

set_option maxRecDepth 100000 in
theorem arg_bytesI {r : Reach} {b : Nat} {v : Value} {d : DataW H} {ps : List MemPlace}
    (hv : Value.okWide Try.prog w r b 22 v) (h : DataW.Trod enc Try.prog w base spare held 22 v d ps) (hw : Wt Try.prog 22 d) :
    ∃ (A : Option Addr) (c : Nat) (ys : List UInt8), v = .slice A ys.length c ∧ Sl w ⟨A, c, ys⟩ ∧ ys.length ≤ 140737488351232 := by
  obtain ⟨p, rfl, hs, hl, _⟩ := arg_bytes Try.underlying22 Try.underlying5 cells_byte bytes_byte hv h hw
  exact ⟨p.A, p.c, p.ys, rfl, hs, hl⟩
end
end
end Go.Proofs.Ytefaapcekbgjoaa
