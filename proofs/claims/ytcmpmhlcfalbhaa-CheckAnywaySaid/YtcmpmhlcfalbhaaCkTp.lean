/- The law's tried, plain: the places that wait are taken in any order. -/
import Derived.Test.YtcmpmhlcfalbhaaLwPa
namespace Go.Proofs.Ytcmpmhlcfalbhaa

/-- Why a place is not taken. -/
def badT (P : Prg) (f n : Nat) (i : Ins) (x : Int) : Prop := x < wantsI P f n i ∨ 256 < x - (takesL P f n).1 + (takesL P f n).2 ∨ (i.op = 18 ∧ x ≠ P.results f)
def fallsT (P : Prg) (f n : Nat) (i : Ins) : Prop := endsI i = false ∧ i.op ≠ 14 ∧ (P.len f : Int) ≤ (n : Int) + 1
theorem goes_plus {i : Ins} {n : Nat} (e : endsI i = false) (h : i.op ≠ 14) : (n : Int) + 1 ∈ goesL i n := by
  unfold endsI at e
  simp only [Bool.or_eq_false_iff, decide_eq_false_iff_not] at e
  unfold goesL
  rw [if_neg (by omega), if_neg h]
  split
  · simp
  split
  · simp
  · simp
theorem goes_in {i : Ins} {n : Nat} {L : Int} (hj : i.op = 14 ∨ i.op = 15 ∨ i.op = 16 → i.a < L) (hf : ¬ (endsI i = false ∧ i.op ≠ 14 ∧ L ≤ (n : Int) + 1)) : ∀ y ∈ goesL i n, y < L := by
  intro y hy
  unfold goesL at hy
  unfold endsI at hf
  split at hy
  · cases hy
  rename_i h1
  split at hy
  · rename_i h2
    rw [List.mem_singleton.1 hy]
    exact hj (.inl h2)
  rename_i h2
  have hn : (n : Int) + 1 < L := by
    refine Int.not_le.1 fun hl => hf ⟨?_, h2, hl⟩
    simp only [Bool.or_eq_false_iff, decide_eq_false_iff_not]
    omega
  split at hy
  · rename_i h3
    simp only [List.mem_cons, List.not_mem_nil, or_false] at hy
    rcases hy with rfl | rfl
    · exact hj (by omega)
    · exact hn
  split at hy
  · rename_i h3
    simp only [List.mem_cons, List.not_mem_nil, or_false] at hy
    rcases hy with rfl | rfl
    · exact hn
    · exact hj (by omega)
  · rw [List.mem_singleton.1 hy]; exact hn
theorem stand_one {P : Prg} {f n : Nat} {i : Ins} {x : Int} (h : if i.op = 18 then x ≠ P.results f else (if i.op = 5 then i.a + 1 else (takesL P f n).1) > x) : (standI P f n i x).1 ≠ 0 := by
  unfold standI
  rw [if_pos h]
  by_cases h18 : i.op = 18
  · rw [if_pos h18]; decide
  · rw [if_neg h18]; decide
theorem stand_bad {P : Prg} {f n : Nat} {i : Ins} {x : Int} (hI : InsFacts P f n i) (h : badT P f n i x) : (standI P f n i x).1 ≠ 0 := by
  by_cases h1 : (if i.op = 18 then x ≠ P.results f else (if i.op = 5 then i.a + 1 else (takesL P f n).1) > x)
  · exact stand_one h1
  · unfold badT wantsI at h
    by_cases h2 : 256 < x - (takesL P f n).1 + (takesL P f n).2
    · unfold standI
      rw [if_neg h1, if_pos h2]
      exact (by decide : (135 : Int) ≠ 0)
    · exfalso
      by_cases h18 : i.op = 18
      · rw [if_pos h18] at h1
        have h3 := (hI.ret h18).1
        rcases h with h | h | ⟨-, h⟩
        · rw [if_neg (by rw [h18]; decide)] at h; omega
        · exact h2 h
        · exact h1 h
      · rw [if_neg h18] at h1
        rcases h with h | h | ⟨h, -⟩
        · omega
        · exact h2 h
        · exact h18 h
theorem stand_falls {P : Prg} {f n : Nat} {i : Ins} {x : Int} (h : fallsT P f n i) : (standI P f n i x).1 ≠ 0 := by
  by_cases h1 : (if i.op = 18 then x ≠ P.results f else (if i.op = 5 then i.a + 1 else (takesL P f n).1) > x)
  · exact stand_one h1
  · unfold standI
    rw [if_neg h1]
    by_cases h2 : 256 < x - (takesL P f n).1 + (takesL P f n).2
    · rw [if_pos h2]
      exact (by decide : (135 : Int) ≠ 0)
    · rw [if_neg h2, if_pos (List.any_eq_true.2 ⟨_, goes_plus h.1 h.2.1, decide_eq_true h.2.2⟩)]
      exact (by decide : (137 : Int) ≠ 0)
theorem stand_fine {P : Prg} {f n : Nat} {i : Ins} {x : Int} (hj : i.op = 14 ∨ i.op = 15 ∨ i.op = 16 → i.a < P.len f) (h : ¬ badT P f n i x) (h2 : ¬ fallsT P f n i) :
    standI P f n i x = (0, x - (takesL P f n).1 + (takesL P f n).2) := by
  unfold standI
  unfold badT wantsI at h
  have hA : ¬ (if i.op = 18 then x ≠ P.results f else (if i.op = 5 then i.a + 1 else (takesL P f n).1) > x) := by
    by_cases h18 : i.op = 18
    · rw [if_pos h18]
      intro hx
      exact h (.inr (.inr ⟨h18, hx⟩))
    · rw [if_neg h18]
      intro hx
      exact h (.inl hx)
  rw [if_neg hA, if_neg (fun hx => h (.inr (.inl hx))), if_neg]
  intro ha
  obtain ⟨y, hy, hd⟩ := List.any_eq_true.1 ha
  have := goes_in hj h2 y hy
  have := of_decide_eq_true hd
  omega
/-- What holds while places are taken: all but those that wait, and one that is under way, go on as they must. -/
structure TMid (P : Prg) (f : Nat) (skip : Nat → Prop) (h : List Int) (row : List Int) : Prop where
  len : h.length = P.len f
  zero : h[0]? = some 0
  bnd : ∀ (n : Nat) x, h[n]? = some x → -1 ≤ x ∧ x ≤ 256
  rows : ∀ y ∈ row, ∃ (n : Nat) (x : Int), y = n ∧ h[n]? = some x ∧ 0 ≤ x
  fit : ∀ (n : Nat) x i, h[n]? = some x → x ≠ -1 → (n : Int) ∉ row → ¬ skip n → P.ins f n = some i → ∃ b, standI P f n i x = (0, b) ∧ ∀ u ∈ goN i n, h[u]? = some b
  come : ∀ (n : Nat) x, h[n]? = some x → x ≠ -1 → Reach (nxF P f) 0 n
  sub : ∀ k, HFin P f k → ∀ (n : Nat) x, h[n]? = some x → x ≠ -1 → k[n]? = some x
abbrev NoSkip : Nat → Prop := fun _ => False
theorem TMid.start {P : Prg} {f : Nat} (h0 : 0 < P.len f) : TMid P f NoSkip (h0L (P.len f)) [0] := by
  have H := HMid.start (P := P) (f := f) h0
  have key : ∀ (n : Nat) x, (h0L (P.len f))[n]? = some x → x ≠ -1 → n = 0 ∧ x = 0 := fun n x hx h1 => by
    rcases set_get hx with ⟨rfl, rfl⟩ | ⟨-, hx⟩
    · exact ⟨rfl, rfl⟩
    · exact absurd (List.eq_of_mem_replicate (List.mem_of_getElem? hx)) h1
  refine ⟨H.len, H.zero, H.bnd, fun y hy => ⟨0, 0, by rw [List.mem_singleton.1 hy]; rfl, H.zero, Int.le_refl 0⟩, fun n x i hx h1 hr => ?_, H.come, fun k hk n x hx h1 => ?_⟩
  · obtain ⟨rfl, -⟩ := key n x hx h1
    exact absurd (by simp) hr
  · obtain ⟨rfl, rfl⟩ := key n x hx h1
    exact hk.zero
section
variable {P : Prg} {f : Nat} {h row : List Int}
theorem TMid.fin (H : TMid P f NoSkip h []) : HFin P f h :=
  ⟨H.len, H.zero, H.bnd, fun n x i hx h1 hi => H.fit n x i hx h1 (by simp) (fun h => h) hi, H.come⟩
theorem mem_swap {l : List Int} {k : Nat} {y z : Int} (hk : l[k]? = some y) (hz : z ∈ l) (hne : z ≠ y) : ∀ (hl : 0 < l.length), z ∈ (l.set k (l[l.length - 1]'(by omega))).take (l.length - 1) := by
  intro hl
  obtain ⟨j, hj, hjz⟩ := List.getElem_of_mem hz
  have hkj : k ≠ j := fun e => by
    subst e
    rw [List.getElem?_eq_getElem hj] at hk
    injection hk with hk
    exact hne (hjz.symm.trans hk)
  have hkl := (List.getElem?_eq_some_iff.1 hk).1
  by_cases hlast : j = l.length - 1
  · refine List.mem_of_getElem? (i := k) ?_
    rw [List.getElem?_take, if_pos (by omega), List.getElem?_set_self hkl]
    simp only [← hlast, hjz]
  · refine List.mem_of_getElem? (i := j) ?_
    rw [List.getElem?_take, if_pos (by omega), List.getElem?_set_ne hkj, List.getElem?_eq_getElem hj, hjz]
theorem swap_mem {l : List Int} {k m : Nat} {y z : Int} (hy : y ∈ l) (hz : z ∈ (l.set k y).take m) : z ∈ l := by
  have h1 := List.mem_of_mem_take hz
  rcases List.mem_or_eq_of_mem_set h1 with h | h
  · exact h
  · rw [h]; exact hy
/-- One that waits is taken, the last one comes in its place. -/
theorem TMid.take (H : TMid P f NoSkip h row) {k n : Nat} (hl : 0 < row.length) (hk : row[k]? = some (n : Int)) : TMid P f (· = n) h ((row.set k (row[row.length - 1]'(by omega))).take (row.length - 1)) := by
  refine ⟨H.len, H.zero, H.bnd, fun y hy => H.rows y (swap_mem (List.getElem_mem _) hy), fun v x i hx h1 hr hs hi => H.fit v x i hx h1 (fun hm => hr ?_) (fun h => h) hi, H.come, H.sub⟩
  exact mem_swap hk hm (fun e => hs (by omega)) hl
theorem TMid.takeL (H : TMid P f NoSkip h row) {k n L : Nat} {lv : Int} (hl : row.length = L + 1) (hlv : row[L]? = some lv) (hk : row[k]? = some (n : Int)) : TMid P f (· = n) h ((row.set k lv).take L) := by
  have h1 := H.take (by omega) hk
  have h2 : row[row.length - 1]'(by omega) = lv := by
    have h3 : row[row.length - 1]? = some lv := by rw [hl]; exact hlv
    exact (List.getElem?_eq_some_iff.1 h3).2
  rw [h2, hl] at h1
  exact h1
/-- Who has no height yet is told one, and waits. -/
theorem TMid.mark (hg : checkL P = 0) {n u : Nat} {x b : Int} {i : Ins} (H : TMid P f (· = n) h row) (hx : h[n]? = some x) (hx0 : 0 ≤ x) (hi : P.ins f n = some i) (e : standI P f n i x = (0, b)) (hu : u ∈ goN i n) {z : Int} (hz : h[u]? = some z) (hz1 : z < 0) :
    TMid P f (· = n) (h.set u b) (row ++ [(u : Int)]) := by
  have hI := ins_facts hg hi
  obtain ⟨-, hb0, hb1, hall, -⟩ := stand_ok hI hx0 e
  have hnx := go_nxF hi hI.goes hall
  have hul := (List.getElem?_eq_some_iff.1 hz).1
  have hz2 : z = -1 := by have := (H.bnd u z hz).1; omega
  subst hz2
  have keep : ∀ (v : Nat) y, h[v]? = some y → y ≠ -1 → (h.set u b)[v]? = some y := fun v y hv hy => by
    rw [List.getElem?_set_ne (fun e => by subst e; rw [hz] at hv; injection hv with hv; exact hy hv.symm)]
    exact hv
  refine ⟨by rw [List.length_set]; exact H.len, keep 0 0 H.zero (by decide), fun v y hv => ?_, fun y hy => ?_, fun v y j hv h1 hr hs hj => ?_, fun v y hv h1 => ?_, fun k hk v y hv h1 => ?_⟩
  · rcases set_get hv with ⟨-, rfl⟩ | ⟨-, hv⟩
    · omega
    · exact H.bnd v y hv
  · rcases List.mem_append.1 hy with hy | hy
    · obtain ⟨m, t, h1, h2, h3⟩ := H.rows y hy
      exact ⟨m, t, h1, keep m t h2 (by omega), h3⟩
    · exact ⟨u, b, List.mem_singleton.1 hy, List.getElem?_set_self hul, hb0⟩
  · have hvu : v ≠ u := fun e => hr (by rw [e]; simp)
    have hv' : h[v]? = some y := by rwa [List.getElem?_set_ne (Ne.symm hvu)] at hv
    obtain ⟨b2, e2, h2⟩ := H.fit v y j hv' h1 (fun hm => hr (List.mem_append_left _ hm)) hs hj
    have hy0 : 0 ≤ y := by have := (H.bnd v y hv').1; omega
    have hb2 := (stand_ok (ins_facts hg hj) hy0 e2).2.1
    exact ⟨b2, e2, fun t ht => keep t b2 (h2 t ht) (by omega)⟩
  · rcases set_get hv with ⟨rfl, -⟩ | ⟨-, hv⟩
    · exact (H.come n x hx (by omega)).trans (.one (by rw [hnx]; exact hu))
    · exact H.come v y hv h1
  · rcases set_get hv with ⟨rfl, rfl⟩ | ⟨-, hv⟩
    · obtain ⟨b2, e2, h2⟩ := hk.fit n x i (H.sub k hk n x hx (by omega)) (by omega) hi
      rw [e] at e2
      injection e2 with _ e2
      rw [e2]
      exact h2 _ hu
    · exact H.sub k hk v y hv h1
/-- All that it goes on to have what lies behind it. -/
theorem TMid.close {n : Nat} {x b : Int} {i : Ins} (H : TMid P f (· = n) h row) (hx : h[n]? = some x) (hi : P.ins f n = some i) (e : standI P f n i x = (0, b)) (hd : ∀ u ∈ goN i n, h[u]? = some b) : TMid P f NoSkip h row := by
  refine ⟨H.len, H.zero, H.bnd, H.rows, fun v y j hv h1 hr _ hj => ?_, H.come, H.sub⟩
  by_cases hvn : v = n
  · subst hvn
    rw [hx] at hv; injection hv with hv; subst hv
    rw [hi] at hj; injection hj with hj; subst hj
    exact ⟨b, e, hd⟩
  · exact H.fit v y j hv h1 hr hvn hj
/-- What is found against one place is found against all heights. -/
theorem TMid.none {n : Nat} {skip : Nat → Prop} {x : Int} {i : Ins} (H : TMid P f skip h row) (hx : h[n]? = some x) (hx0 : 0 ≤ x) (hi : P.ins f n = some i) (e : (standI P f n i x).1 ≠ 0) : ∀ k, ¬ HFin P f k := by
  intro k hk
  obtain ⟨b, e2, -⟩ := hk.fit n x i (H.sub k hk n x hx (by omega)) (by omega) hi
  rw [e2] at e
  exact e rfl
theorem TMid.unlike {n u : Nat} {skip : Nat → Prop} {x b z : Int} {i : Ins} (H : TMid P f skip h row) (hx : h[n]? = some x) (hx0 : 0 ≤ x) (hi : P.ins f n = some i) (e : standI P f n i x = (0, b)) (hu : u ∈ goN i n) (hz : h[u]? = some z) (hz0 : 0 ≤ z) (hne : z ≠ b) : ∀ k, ¬ HFin P f k := by
  intro k hk
  obtain ⟨b2, e2, h2⟩ := hk.fit n x i (H.sub k hk n x hx (by omega)) (by omega) hi
  rw [e] at e2
  injection e2 with _ e2
  have h3 := h2 u hu
  rw [H.sub k hk u z hz (by omega)] at h3
  injection h3 with h3
  exact hne (h3.trans e2.symm)
end
end Go.Proofs.Ytcmpmhlcfalbhaa
