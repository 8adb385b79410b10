/- Lists of the call's own, in unlike blocks, of elements of any kind (their cells laid in a row): they are written full, then one element at a time is appended to each in turns: plain. -/
import Derived.Test.YtefaapcekbgjoaaBaseK
import Derived.Test.YtefaapcekbgjoaaApp2
namespace Go.Proofs.Ytefaapcekbgjoaa
open Go.RowKit

theorem ownG_set {w : World} {e : TypeId} {base size g n c : Nat} {vs : List Value} (h : Own w base e size (some ⟨g, 0, none⟩) n c vs) (j : Nat) (u : Value) : Own (w.setCell ⟨g, j, none⟩ u) base e size (some ⟨g, 0, none⟩) n c (vs.set j u) := by
  obtain ⟨hl, h2⟩ := h
  rcases h2 with ⟨hv, _⟩ | ⟨g', cap, cur, hv, hg, hh, hnc, hcm, hcs, htake⟩
  · injection hv with h1; cases h1
  · injection hv with h1 h2 h3
    cases h1
    subst h3
    have hb : Blk w g e cur.toList.toArray := by simpa [Blk] using hh
    have hb2 := Blk.setL (cs := cur.toList) hb j u
    refine ⟨by simpa using hl, .inr ⟨g, c, (cur.toList.set j u).toArray, rfl, hg, hb2, hnc, hcm, by simpa using hcs, ?_⟩⟩
    show (cur.toList.set j u).take (n * size) = vs.set j u
    rw [List.take_set, htake]
theorem ownG_at {w : World} {e : TypeId} {base size g n c : Nat} {vs : List Value} (h : Own w base e size (some ⟨g, 0, none⟩) n c vs) (j : Nat) (hj : j < vs.length) : w.cell? ⟨g, j, none⟩ = some vs[j] ∧ w.frozen? ⟨g, j, none⟩ = false ∧ g < w.heap.size := by
  have hlt := (Own.row h g rfl).2
  obtain ⟨hl, h2⟩ := h
  rcases h2 with ⟨hv, _⟩ | ⟨g', cap, cur, hv, hg, hh, hnc, hcm, hcs, htake⟩
  · injection hv with h1; cases h1
  · injection hv with h1 h2 h3
    cases h1
    subst h3
    have hb : Blk w g e cur.toList.toArray := by simpa [Blk] using hh
    refine ⟨?_, hb.frozen j, hlt⟩
    rw [hb.at_]
    have h3 : vs[j]? = some vs[j] := List.getElem?_eq_getElem hj
    have h4 : cur.toList[j]? = (cur.toList.take (n * size))[j]? := by rw [List.getElem?_take, if_pos (by omega)]
    rw [h4, htake]
    exact h3
theorem ownG_some {w : World} {e : TypeId} {base size n c : Nat} {A : Option Addr} {vs : List Value} (h : Own w base e size A n c vs) (hn : 0 < n) : ∃ g, A = some ⟨g, 0, none⟩ ∧ base ≤ g ∧ g < w.heap.size := by
  rcases h.2 with ⟨hv, h0⟩ | ⟨g', cap, cur, hv, hg, hh, hnc, hcm, hcs, htake⟩
  · omega
  · injection hv with h1
    exact ⟨g', h1, hg, (Array.getElem?_eq_some_iff.1 hh).1⟩
theorem ownG_form {w : World} {e : TypeId} {base size n c : Nat} {A : Option Addr} {vs : List Value} (h : Own w base e size A n c vs) (b : Nat) (hb : A.map (·.block) = some b) : A = some ⟨b, 0, none⟩ ∧ base ≤ b ∧ b < w.heap.size := by
  rcases h.2 with ⟨hv, h0⟩ | ⟨g', cap, cur, hv, hg, hh, hnc, hcm, hcs, htake⟩
  · injection hv with h1; rw [h1] at hb; cases hb
  · injection hv with h1
    rw [h1] at hb
    injection hb with hb
    change g' = b at hb
    subst hb
    exact ⟨h1, hg, (Array.getElem?_eq_some_iff.1 hh).1⟩
theorem ownG_ne {w : World} {b1 b2 s1 s2 n1 n2 c1 c2 : Nat} {e1 e2 : TypeId} {A1 A2 : Option Addr} {v1 v2 : List Value} (h1 : Own w b1 e1 s1 A1 n1 c1 v1) (h2 : Own w b2 e2 s2 A2 n2 c2 v2) (hne : e1 ≠ e2) (b : Nat) (e : A1.map (·.block) = some b) : A2.map (·.block) ≠ some b := by
  intro e'
  rcases h1.2 with ⟨hv, _⟩ | ⟨g, cap, cur, hv, _, hh, _⟩
  · injection hv with h; rw [h] at e; cases e
  rcases h2.2 with ⟨hv', _⟩ | ⟨g', cap', cur', hv', _, hh', _⟩
  · injection hv' with h; rw [h] at e'; cases e'
  injection hv with h _ _
  injection hv' with h' _ _
  rw [h] at e
  rw [h'] at e'
  injection e with e
  injection e' with e'
  dsimp only at e e'
  subst e e'
  rw [hh] at hh'
  injection hh' with hh'
  injection hh' with _ ht
  exact hne ht
/-- A list as it lies: its place, how many elements, its room. -/
structure LG where
  A : Option Addr
  n : Nat
  c : Nat
abbrev LG.val (p : LG) : Value := .slice p.A p.n p.c
/-- A list's cells, q of them written over. -/
def fillC (mk vs : List Value) (q : Nat) : List Value := mk.take q ++ vs.drop q
theorem fillC_zero (mk vs : List Value) : fillC mk vs 0 = vs := rfl
theorem fillC_all (mk vs : List Value) (h : mk.length = vs.length) : fillC mk vs vs.length = mk := by
  unfold fillC
  rw [List.drop_length, List.append_nil, ← h, List.take_length]
theorem fillC_len (mk vs : List Value) (q : Nat) (h : mk.length = vs.length) (hq : q ≤ vs.length) : (fillC mk vs q).length = vs.length := by
  unfold fillC
  rw [List.length_append, List.length_take, List.length_drop]
  omega
theorem fillC_set (mk vs : List Value) (q : Nat) (u : Value) (h : mk.length = vs.length) (hu : mk[q]? = some u) : (fillC mk vs q).set q u = fillC mk vs (q + 1) := by
  have hq : q < mk.length := (List.getElem?_eq_some_iff.1 hu).1
  unfold fillC
  rw [List.set_append_right _ _ (by rw [List.length_take]; omega), List.length_take, Nat.min_eq_left (by omega), Nat.sub_self, List.drop_eq_getElem_cons (by omega : q < vs.length), List.set_cons_zero,
    List.take_add_one, hu, List.append_assoc]
  rfl
/-- Every list is the call's own, in unlike blocks; list k is being written. -/
structure FullG (w : World) (base : Nat) (e : TypeId) (sz : Nat) (ps : List LG) (mk vs : Nat → List Value) (k q : Nat) : Prop where
  own : ∀ t p, ps[t]? = some p → Own w base e sz p.A p.n p.c (if t < k then mk t else if t = k then fillC (mk t) (vs t) q else vs t)
theorem FullG.put {w : World} {base : Nat} {e : TypeId} {sz : Nat} {ps : List LG} {mk vs : Nat → List Value} {k q : Nat} (h : FullG w base e sz ps mk vs k q)
    (hsole : ∀ (i j : Nat) (p r : LG), i ≠ j → ps[i]? = some p → ps[j]? = some r → ∀ b, p.A.map (·.block) = some b → r.A.map (·.block) ≠ some b)
    {p : LG} (hp : ps[k]? = some p) (g : Nat) (hA : p.A = some ⟨g, 0, none⟩) (hlen : (mk k).length = (vs k).length) (u : Value) (hu : (mk k)[q]? = some u) :
    FullG (w.setCell ⟨g, q, none⟩ u) base e sz ps mk vs k (q + 1) := by
  refine ⟨fun t r hr => ?_⟩
  by_cases ht : t = k
  · subst ht
    rw [hp] at hr
    injection hr with hr
    subst hr
    have h1 := h.own t p hp
    rw [if_neg (Nat.lt_irrefl _), if_pos rfl] at h1 ⊢
    rw [hA] at h1 ⊢
    rw [← fillC_set _ _ _ u hlen hu]
    exact ownG_set h1 q u
  · have h1 := h.own t r hr
    have e1 : (if t < k then mk t else if t = k then fillC (mk t) (vs t) (q + 1) else vs t) = (if t < k then mk t else if t = k then fillC (mk t) (vs t) q else vs t) := by rw [if_neg ht, if_neg ht]
    rw [e1]
    refine Own.only h1 ((Only.refl (fun b => b = g) w).setCell (p := ⟨g, q, none⟩) (.inl rfl) u) fun b o e2 e3 => ?_
    exact hsole t k r p ht hr hp b (by rw [e2]; rfl) (by rw [hA, e3]; rfl)
theorem FullG.next {w : World} {base : Nat} {e : TypeId} {sz : Nat} {ps : List LG} {mk vs : Nat → List Value} {k : Nat} (h : FullG w base e sz ps mk vs k (vs k).length) (hlen : (mk k).length = (vs k).length) : FullG w base e sz ps mk vs (k + 1) 0 := by
  refine ⟨fun t r hr => ?_⟩
  have h1 := h.own t r hr
  rcases Nat.lt_trichotomy t k with ht | rfl | ht
  · rw [if_pos ht] at h1
    rw [if_pos (by omega)]
    exact h1
  · rw [if_neg (Nat.lt_irrefl _), if_pos rfl, fillC_all _ _ hlen] at h1
    rw [if_pos (by omega)]
    exact h1
  · rw [if_neg (by omega), if_neg (by omega)] at h1
    rw [if_neg (by omega)]
    by_cases h2 : t = k + 1
    · rw [if_pos h2]; exact h1
    · rw [if_neg h2]; exact h1
theorem FullG.only {S : Nat → Prop} {w w' : World} {base : Nat} {e : TypeId} {sz : Nat} {ps : List LG} {mk vs : Nat → List Value} {k q : Nat} (h : FullG w base e sz ps mk vs k q) (ho : Only S w w') (hS : ∀ p ∈ ps, ∀ b, p.A.map (·.block) = some b → ¬ S b) : FullG w' base e sz ps mk vs k q :=
  ⟨fun t p hp => Own.only (h.own t p hp) ho fun b o e2 => hS p (List.mem_of_getElem? hp) b (by rw [e2]; rfl)⟩
/-! ### Then one element at a time is appended to each in turns -/
/-- Where list t lies behind its appends; m t: how many. -/
structure MoreG (w0 wr : World) (B base : Nat) (e rowT : TypeId) (sz : Nat) (ps : List LG) (mk : Nat → List Value) (tl : Nat → Nat → List Value) (m : Nat → Nat) (GA : Nat → Option Addr) (GC : Nat → Nat) (AM : Option Addr) (cM : Nat) : Prop where
  row : Own wr 0 rowT 1 AM ps.length cM ((List.range ps.length).map fun t => .slice (GA t) ((ps.map LG.n).getD t 0 + m t) (GC t))
  done : ∀ t p, ps[t]? = some p → Own wr base e sz (GA t) (p.n + m t) (GC t) (mk t ++ tl t (m t)) ∧ RV wr p.A (mk t) ∧ ∀ b, (GA t).map (·.block) = some b → p.A.map (·.block) = some b ∨ B ≤ b
  sole : ∀ t t', t ≠ t' → t < ps.length → t' < ps.length → ∀ b, (GA t).map (·.block) = some b → (GA t').map (·.block) ≠ some b
  only : Only (fun b => AM.map (·.block) = some b ∨ ∃ p ∈ ps, p.A.map (·.block) = some b) w0 wr
  size : B ≤ wr.heap.size
/-- One element is appended to list i; the row's place is written. -/
theorem MoreG.step {w0 wr wx w3 w4 : World} {B base : Nat} {e rowT : TypeId} {sz : Nat} {ps : List LG} {mk : Nat → List Value} {tl : Nat → Nat → List Value} {m : Nat → Nat} {GA : Nat → Option Addr} {GC : Nat → Nat} {gM cM i : Nat} {us : List Value} {p : LG} {A2 : Option Addr} {c2 : Nat}
    (h : MoreG w0 wr B base e rowT sz ps mk tl m GA GC (some ⟨gM, 0, none⟩) cM) (hp : ps[i]? = some p) (hne : rowT ≠ e)
    (hlt : ∀ p ∈ ps, ∀ b, p.A.map (·.block) = some b → b < B ∧ b ≠ gM) (hw0 : w0.heap.size ≤ B)
    (hform : ∀ p ∈ ps, ∀ b, p.A.map (·.block) = some b → p.A = some ⟨b, 0, none⟩)
    (hsole : ∀ (i j : Nat) (p r : LG), i ≠ j → ps[i]? = some p → ps[j]? = some r → ∀ b, p.A.map (·.block) = some b → r.A.map (·.block) ≠ some b)
    (htl : tl i (m i) ++ us = tl i (m i + 1)) (hb : Below wr.heap.size wr wx)
    (hown : Own w3 base e sz A2 (p.n + m i + 1) c2 ((mk i ++ tl i (m i)) ++ us))
    (hA : (A2 = GA i ∧ GA i ≠ none ∧ wx.grownBy w3 ((GA i).map (·.block))) ∨ ((∀ b o, A2 = some ⟨b, o, none⟩ → wx.heap.size ≤ b) ∧ wx.grownBy w3 none))
    (hw4 : w4 = w3.setCell ⟨gM, i, none⟩ (.slice A2 (p.n + m i + 1) c2)) :
    MoreG w0 w4 B base e rowT sz ps mk tl (fun t => if t = i then m t + 1 else m t) (fun t => if t = i then A2 else GA t) (fun t => if t = i then c2 else GC t) (some ⟨gM, 0, none⟩) cM := by
  have hpm := List.mem_of_getElem? hp
  have hil : i < ps.length := (List.getElem?_eq_some_iff.1 hp).1
  obtain ⟨hoi, hri, hfi⟩ := h.done i p hp
  have hzx := hb.size
  -- what is written beside the row: the block that list i had, if it stays there
  have hO3 : Only (fun b => (GA i).map (·.block) = some b ∧ A2 = GA i) wx w3 := by
    rcases hA with ⟨h1, -, h3⟩ | ⟨-, h3⟩
    · exact Only.of_grown h3 fun k hk => ⟨hk, h1⟩
    · exact Only.of_grown h3 fun k hk => by cases hk
  have hz3 := hO3.size
  have hO4 : Only (fun b => b = gM) w3 w4 := by rw [hw4]; exact (Only.refl (fun b => b = gM) w3).setCell (p := ⟨gM, i, none⟩) (.inl rfl) _
  have hz4 := hO4.size
  have hrowx := Own.below h.row hb (Nat.le_refl _)
  have hgM : ∀ b, (GA i).map (·.block) = some b → b ≠ gM := fun b e1 e2 => ownG_ne h.row hoi hne gM rfl (by rw [← e2]; exact e1)
  have hrow3 := Own.only hrowx hO3 fun b o e1 e2 => by
    injection e1 with e1
    injection e1 with e1
    exact hgM b e2.1 e1.symm
  -- the other lists
  have hoth : ∀ t r, t ≠ i → ps[t]? = some r → Own w4 base e sz (GA t) (r.n + m t) (GC t) (mk t ++ tl t (m t)) := fun t r ht hr => by
    obtain ⟨ho, -, hf⟩ := h.done t r hr
    have htl' : t < ps.length := (List.getElem?_eq_some_iff.1 hr).1
    have h3 := Own.only (Own.below ho hb (Nat.le_refl _)) hO3 fun b o e1 e2 => h.sole t i ht htl' hil b (by rw [e1]; rfl) e2.1
    exact Own.only h3 hO4 fun b o e1 e2 => ownG_ne h.row ho hne gM rfl (by rw [e1, ← e2]; rfl)
  have hnew : Own w4 base e sz A2 (p.n + (m i + 1)) c2 (mk i ++ tl i (m i + 1)) := by
    rw [← htl, ← List.append_assoc, ← Nat.add_assoc]
    exact Own.only hown hO4 fun b o e1 e2 => ownG_ne hrow3 hown hne gM rfl (by rw [e1, ← e2]; rfl)
  have hA2b : ∀ b, A2.map (·.block) = some b → (A2 = GA i ∧ (GA i).map (·.block) = some b) ∨ wx.heap.size ≤ b := fun b e1 => by
    rcases hA with ⟨h1, -, -⟩ | ⟨h1, -⟩
    · exact .inl ⟨h1, by rw [← h1]; exact e1⟩
    · have hf := (ownG_form hown b e1).1
      exact .inr (h1 b 0 hf)
  have hrv : ∀ t r, ps[t]? = some r → RV w4 r.A (mk t) := fun t r hr => by
    obtain ⟨ho, hrr, hf⟩ := h.done t r hr
    have hrm := List.mem_of_getElem? hr
    by_cases hin : A2 = GA i ∧ t = i ∧ ∃ b, r.A.map (·.block) = some b ∧ (GA i).map (·.block) = some b
    · obtain ⟨h1, rfl, b, h2, h3⟩ := hin
      rw [hp] at hr
      injection hr with hr
      subst hr
      have hf1 := hform p hpm b h2
      have hf2 := (ownG_form ho b h3).1
      have h4 := RV.of_own hnew
      rw [h1, hf2] at h4
      have h5 := h4.cut 0 (mk t).length
      rw [List.drop_zero, List.take_append_of_le_length (Nat.le_refl _), List.take_length] at h5
      rw [hf1]
      exact h5
    · have h3 := (hrr.below hb).only hO3 fun _ b o e1 e2 => by
        refine hin ⟨e2.2, ?_, b, by rw [e1]; rfl, e2.1⟩
        by_cases hti : t = i
        · exact hti
        · exfalso
          rcases hfi b e2.1 with h4 | h4
          · exact hsole t i r p hti hr hp b (by rw [e1]; rfl) h4
          · have := hlt r hrm b (by rw [e1]; rfl)
            omega
      exact h3.only hO4 fun hv b o e1 e2 => (hlt r hrm b (by rw [e1]; rfl)).2 e2
  have hN : ∀ t, (fun t => if t = i then m t + 1 else m t) t = if t = i then m t + 1 else m t := fun _ => rfl
  refine ⟨?_, fun t r hr => ?_, fun t t' htt ht ht' b e1 e2 => ?_, ?_, by have := h.size; omega⟩
  · have h1 := ownG_set hrow3 i (.slice A2 (p.n + m i + 1) c2)
    rw [← hw4] at h1
    have e1 : ((List.range ps.length).map fun t => Value.slice (GA t) ((ps.map LG.n).getD t 0 + m t) (GC t)).set i (.slice A2 (p.n + m i + 1) c2) =
        (List.range ps.length).map fun t => Value.slice (if t = i then A2 else GA t) ((ps.map LG.n).getD t 0 + (if t = i then m t + 1 else m t)) (if t = i then c2 else GC t) := by
      apply List.ext_getElem?
      intro j
      by_cases hj : j = i
      · subst hj
        rw [List.getElem?_set_self (by simpa using hil), List.getElem?_map, List.getElem?_range hil]
        simp only [Option.map_some, if_pos]
        have : (ps.map LG.n).getD j 0 = p.n := by simp [hp]
        rw [this, Nat.add_assoc]
      · rw [List.getElem?_set_ne (fun h => hj h.symm), List.getElem?_map, List.getElem?_map]
        cases hjr : (List.range ps.length)[j]? with
        | none => rfl
        | some x =>
          have hx : x = j := by
            have := (List.getElem?_eq_some_iff.1 hjr).2
            rw [List.getElem_range] at this
            exact this.symm
          subst hx
          simp only [Option.map_some, if_neg hj]
    rw [e1] at h1
    exact h1
  · by_cases ht : t = i
    · subst ht
      rw [hp] at hr
      injection hr with hr
      subst hr
      rw [if_pos rfl, if_pos rfl, if_pos rfl]
      refine ⟨hnew, hrv t p hp, fun b e1 => ?_⟩
      rcases hA2b b e1 with ⟨-, h2⟩ | h2
      · exact hfi b h2
      · have := h.size; exact .inr (by omega)
    · rw [if_neg ht, if_neg ht, if_neg ht]
      exact ⟨hoth t r ht hr, hrv t r hr, (h.done t r hr).2.2⟩
  · have hlt2 : ∀ t, t < ps.length → ∀ b, (GA t).map (·.block) = some b → b < wr.heap.size := fun t ht b e => by
      obtain ⟨ho, -, -⟩ := h.done t ps[t] (List.getElem?_eq_getElem ht)
      exact (Own.row ho b e).2
    by_cases h1 : t = i
    · rw [if_pos h1] at e1
      rw [if_neg (by omega)] at e2
      rcases hA2b b e1 with ⟨-, h2⟩ | h2
      · exact h.sole t t' htt ht ht' b (by rw [h1]; exact h2) e2
      · have := hlt2 t' ht' b e2; omega
    · rw [if_neg h1] at e1
      by_cases h3 : t' = i
      · rw [if_pos h3] at e2
        rcases hA2b b e2 with ⟨-, h2⟩ | h2
        · exact h.sole t t' htt ht ht' b e1 (by rw [h3]; exact h2)
        · have := hlt2 t ht b e1; omega
      · rw [if_neg h3] at e2
        exact h.sole t t' htt ht ht' b e1 e2
  · have h1 := (h.only.trans (Only.of_fresh hb)).more hO3 fun b hbl e => by
      rcases hfi b e.1 with h2 | h2
      · exact .inr ⟨p, hpm, h2⟩
      · omega
    exact h1.trans (hO4.mono fun b _ e => .inl (by rw [e]; rfl))
theorem MoreG.start {w : World} {base b : Nat} {e rowT : TypeId} {sz cM : Nat} {ps : List LG} {mk : Nat → List Value} {tl : Nat → Nat → List Value} {AM : Option Addr} (hown : ∀ t p, ps[t]? = some p → Own w base e sz p.A p.n p.c (mk t))
    (hsole : ∀ (i j : Nat) (p r : LG), i ≠ j → ps[i]? = some p → ps[j]? = some r → ∀ b, p.A.map (·.block) = some b → r.A.map (·.block) ≠ some b)
    (hrow : Own w b rowT 1 AM ps.length cM (ps.map LG.val)) (htl : ∀ t, tl t 0 = []) :
    MoreG w w w.heap.size base e rowT sz ps mk tl (fun _ => 0) (fun t => (ps.map LG.A).getD t none) (fun t => (ps.map LG.c).getD t 0) AM cM := by
  have hg : ∀ t p, ps[t]? = some p → (ps.map LG.A).getD t none = p.A ∧ (ps.map LG.c).getD t 0 = p.c ∧ (ps.map LG.n).getD t 0 = p.n := fun t p h => by simp [h]
  refine ⟨?_, fun t p hp => ?_, fun t t' htt ht ht' b e1 e2 => ?_, Only.refl _ _, Nat.le_refl _⟩
  · have e : ((List.range ps.length).map fun t => Value.slice ((ps.map LG.A).getD t none) ((ps.map LG.n).getD t 0 + 0) ((ps.map LG.c).getD t 0)) = ps.map LG.val := by
      apply List.ext_getElem?
      intro j
      by_cases hj : j < ps.length
      · have hp : ps[j]? = some ps[j] := List.getElem?_eq_getElem hj
        obtain ⟨h1, h2, h3⟩ := hg j _ hp
        rw [List.getElem?_map, List.getElem?_range hj, List.getElem?_map, hp]
        simp only [Option.map_some, h1, h2, h3, Nat.add_zero]
      · rw [List.getElem?_eq_none (by simpa using hj), List.getElem?_eq_none (by simpa using hj)]
    rw [e]
    exact hrow.mono (Nat.zero_le _)
  · obtain ⟨h1, h2, -⟩ := hg t p hp
    have ho := hown t p hp
    rw [h1, h2, htl, List.append_nil, Nat.add_zero]
    exact ⟨ho, RV.of_own ho, fun b e => .inl e⟩
  · obtain ⟨h1, -, -⟩ := hg t ps[t] (List.getElem?_eq_getElem ht)
    obtain ⟨h2, -, -⟩ := hg t' ps[t'] (List.getElem?_eq_getElem ht')
    rw [h1] at e1
    rw [h2] at e2
    exact hsole t t' _ _ htt (List.getElem?_eq_getElem ht) (List.getElem?_eq_getElem ht') b e1 e2
theorem MoreG.congr {w0 wr : World} {B base : Nat} {e rowT : TypeId} {sz : Nat} {ps : List LG} {mk : Nat → List Value} {tl : Nat → Nat → List Value} {m m' : Nat → Nat} {GA : Nat → Option Addr} {GC : Nat → Nat} {AM : Option Addr} {cM : Nat}
    (h : MoreG w0 wr B base e rowT sz ps mk tl m GA GC AM cM) (hm : ∀ t, t < ps.length → m t = m' t) : MoreG w0 wr B base e rowT sz ps mk tl m' GA GC AM cM := by
  refine ⟨?_, fun t p hp => ?_, h.sole, h.only, h.size⟩
  · have e : ((List.range ps.length).map fun t => Value.slice (GA t) ((ps.map LG.n).getD t 0 + m' t) (GC t)) = (List.range ps.length).map fun t => Value.slice (GA t) ((ps.map LG.n).getD t 0 + m t) (GC t) :=
      List.map_congr_left fun j hj => by rw [hm j (List.mem_range.1 hj)]
    rw [e]
    exact h.row
  · rw [← hm t (List.getElem?_eq_some_iff.1 hp).1]
    exact h.done t p hp
theorem rowG_at {w : World} {rowT : TypeId} {ps : List LG} {m : Nat → Nat} {GA : Nat → Option Addr} {GC : Nat → Nat} {gM cM i : Nat} {p : LG} (h : Own w 0 rowT 1 (some ⟨gM, 0, none⟩) ps.length cM ((List.range ps.length).map fun t => .slice (GA t) ((ps.map LG.n).getD t 0 + m t) (GC t)))
    (hp : ps[i]? = some p) : w.cell? ⟨gM, i, none⟩ = some (.slice (GA i) (p.n + m i) (GC i)) ∧ w.frozen? ⟨gM, i, none⟩ = false ∧ gM < w.heap.size := by
  have hil := (List.getElem?_eq_some_iff.1 hp).1
  obtain ⟨h1, h2, h3⟩ := ownG_at h i (by simpa using hil)
  have e : (ps.map LG.n).getD i 0 = p.n := by simp [hp]
  rw [List.getElem_map, List.getElem_range, e] at h1
  exact ⟨h1, h2, h3⟩
/-- The row, behind an append to list i. -/
theorem MoreG.row3 {w0 wr wx w3 : World} {B base : Nat} {e rowT : TypeId} {sz : Nat} {ps : List LG} {mk : Nat → List Value} {tl : Nat → Nat → List Value} {m : Nat → Nat} {GA : Nat → Option Addr} {GC : Nat → Nat} {gM cM i : Nat} {p : LG} {A2 : Option Addr}
    (h : MoreG w0 wr B base e rowT sz ps mk tl m GA GC (some ⟨gM, 0, none⟩) cM) (hp : ps[i]? = some p) (hne : rowT ≠ e) (hb : Below wr.heap.size wr wx)
    (hA : (A2 = GA i ∧ GA i ≠ none ∧ wx.grownBy w3 ((GA i).map (·.block))) ∨ ((∀ b o, A2 = some ⟨b, o, none⟩ → wx.heap.size ≤ b) ∧ wx.grownBy w3 none)) :
    Own w3 0 rowT 1 (some ⟨gM, 0, none⟩) ps.length cM ((List.range ps.length).map fun t => .slice (GA t) ((ps.map LG.n).getD t 0 + m t) (GC t)) := by
  obtain ⟨hoi, -, -⟩ := h.done i p hp
  have hO3 : Only (fun b => (GA i).map (·.block) = some b) wx w3 := by
    rcases hA with ⟨-, -, h3⟩ | ⟨-, h3⟩
    · exact Only.of_grown h3 fun k hk => hk
    · exact Only.of_grown h3 fun k hk => by cases hk
  refine Own.only (Own.below h.row hb (Nat.le_refl _)) hO3 fun b o e1 e2 => ?_
  injection e1 with e1
  injection e1 with e1
  exact ownG_ne h.row hoi hne gM rfl (by rw [e1]; exact e2)
theorem vals_one (ps : List LG) : ∀ u ∈ ps.map LG.val, u.oneCell' = true := by
  intro u hu
  obtain ⟨p, -, rfl⟩ := List.mem_map.1 hu
  rfl
/-- A row of lists of the call's own, in unlike blocks. -/
structure ListsG (w : World) (base : Nat) (e : TypeId) (sz : Nat) (L : Option Addr) (ps : List LG) (vs : Nat → List Value) : Prop where
  rv : RV w L (ps.map LG.val)
  own : ∀ t p, ps[t]? = some p → Own w base e sz p.A p.n p.c (vs t)
  sole : ∀ (i j : Nat) (p r : LG), i ≠ j → ps[i]? = some p → ps[j]? = some r → ∀ b, p.A.map (·.block) = some b → r.A.map (·.block) ≠ some b
  far : ∀ p ∈ ps, ∀ b o, L = some ⟨b, o, none⟩ → p.A.map (·.block) ≠ some b
  many : ps.length ≤ 64
  nil : L = none → ps.length = 0
  small : ∀ p ∈ ps, p.n ≤ 2000000
def nOf (ps : List LG) (t : Nat) : Nat := (ps.map LG.n).getD t 0
theorem nOf_eq {ps : List LG} {t : Nat} {p : LG} (h : ps[t]? = some p) : nOf ps t = p.n := by unfold nOf; simp [h]
theorem vals_get {ps : List LG} {t : Nat} {p : LG} (h : ps[t]? = some p) : (ps.map LG.val)[t]? = some p.val := by rw [List.getElem?_map, h]; rfl
end Go.Proofs.Ytefaapcekbgjoaa
