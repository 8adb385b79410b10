/- The law's grown of programs: two rows of lists that are appended to in turns: plain. -/
import Derived.Test.YtadnjfoinmeloaaPrgGl
namespace Go.Proofs.Ytadnjfoinmeloaa
open Go.RowKit

/-- What an append to list i, and the store behind it, write to. -/
theorem MoreG.wrote {w0 wr wx w3 w4 : World} {B base : Nat} {e rowT : TypeId} {sz : Nat} {ps : List LG} {mk : Nat → List Value} {tl : Nat → Nat → List Value} {m : Nat → Nat} {GA : Nat → Option Addr} {GC : Nat → Nat} {gM cM i : Nat} {A2 : Option Addr} {u : Value}
    (_h : MoreG w0 wr B base e rowT sz ps mk tl m GA GC (some ⟨gM, 0, none⟩) cM) (hb : Below wr.heap.size wr wx)
    (hA : (A2 = GA i ∧ GA i ≠ none ∧ wx.grownBy w3 ((GA i).map (·.block))) ∨ ((∀ b o, A2 = some ⟨b, o, none⟩ → wx.heap.size ≤ b) ∧ wx.grownBy w3 none))
    (hw4 : w4 = w3.setCell ⟨gM, i, none⟩ u) : Only (fun b => (GA i).map (·.block) = some b ∨ b = gM) wr w4 := by
  have hO3 : Only (fun b => (GA i).map (·.block) = some b) wx w3 := by
    rcases hA with ⟨-, -, h3⟩ | ⟨-, h3⟩
    · exact Only.of_grown h3 fun k hk => hk
    · exact Only.of_grown h3 fun k hk => by cases hk
  have hO4 : Only (fun b => b = gM) w3 w4 := by rw [hw4]; exact (Only.refl (fun b => b = gM) w3).setCell (p := ⟨gM, i, none⟩) (.inl rfl) _
  exact (((Only.of_fresh (S := fun b => (GA i).map (·.block) = some b ∨ b = gM) hb)).more hO3 fun _ _ e => .inl e).more hO4 fun _ _ e => .inr e
structure TwoG (w wr : World) (l : List PrgM) (B Ba Bc Bd : Nat) (AC : Option Addr) (cC : Nat) (mc : Nat → Nat) (GAc : Nat → Option Addr) (GCc : Nat → Nat) (AMc : Option Addr) (cMc : Nat) (md : Nat → Nat) (GAd : Nat → Option Addr) (GCd : Nat → Nat) (AMd : Option Addr) (cMd : Nat) : Prop where
  c : ∃ w0 : World, w0.heap.size ≤ Bc ∧ MoreG w0 wr Bc B 52 48 2 (codeLs l) (mkI (codeLs l)) tlI mc GAc GCc AMc cMc
  d : ∃ w0 : World, w0.heap.size ≤ Bd ∧ MoreG w0 wr Bd B 5 22 1 (dataLs l) (mkB (dataLs l)) tlB md GAd GCd AMd cMd
  o : Only (SpG l) w wr
  row : Own wr w.heap.size 48 1 AC (codeLs l).length cC ((codeLs l).map LG.val)
  old : ∀ b, AC.map (·.block) = some b → b < Ba
  mrow : ∀ b, AMc.map (·.block) = some b → Ba ≤ b ∧ b < Bc
  drow : ∀ b, AMd.map (·.block) = some b → Bc ≤ b ∧ b < Bd
  s1 : w.heap.size ≤ Ba
  s2 : Ba ≤ Bc
  s3 : Bc ≤ Bd
  s4 : Bd ≤ wr.heap.size
section
variable {w wr wx w3 w4 : World} {l : List PrgM} {B Ba Bc Bd cC cMc cMd cL : Nat} {L AC AMc AMd : Option Addr} {mc md GCc GCd : Nat → Nat} {GAc GAd : Nat → Option Addr}
theorem TwoG.stepC {gM i c2 : Nat} {us : List Value} {p : LG} {A2 : Option Addr} (H : GrH w B l L cL) (h : TwoG w wr l B Ba Bc Bd AC cC mc GAc GCc (some ⟨gM, 0, none⟩) cMc md GAd GCd AMd cMd) (hp : (codeLs l)[i]? = some p)
    (htl : tlI i (mc i) ++ us = tlI i (mc i + 1)) (hb : Below wr.heap.size wr wx)
    (hown : Own w3 B 52 2 A2 (p.n + mc i + 1) c2 ((mkI (codeLs l) i ++ tlI i (mc i)) ++ us))
    (hA : (A2 = GAc i ∧ GAc i ≠ none ∧ wx.grownBy w3 ((GAc i).map (·.block))) ∨ ((∀ b o, A2 = some ⟨b, o, none⟩ → wx.heap.size ≤ b) ∧ wx.grownBy w3 none))
    (hw4 : w4 = w3.setCell ⟨gM, i, none⟩ (.slice A2 (p.n + mc i + 1) c2)) :
    TwoG w w4 l B Ba Bc Bd AC cC (fun t => if t = i then mc t + 1 else mc t) (fun t => if t = i then A2 else GAc t) (fun t => if t = i then c2 else GCc t) (some ⟨gM, 0, none⟩) cMc md GAd GCd AMd cMd := by
  obtain ⟨w0, h0, hc⟩ := h.c
  obtain ⟨w0', h0', hd⟩ := h.d
  have hO := hc.wrote hb hA hw4
  have hz := hO.size
  have hgM := h.mrow gM rfl
  obtain ⟨hoi, -, hfi⟩ := hc.done i p hp
  have hpm := List.mem_of_getElem? hp
  have hs1 := h.s1; have hs2 := h.s2; have hs3 := h.s3; have hs4 := h.s4
  have hlt : ∀ q ∈ codeLs l, ∀ b, q.A.map (·.block) = some b → b < w.heap.size := fun q hq b e => (H.sp b (.inr ⟨q, hq, e⟩)).2
  refine ⟨⟨w0, h0, hc.step hp (by decide) (fun q hq b e => ⟨by have := hlt q hq b e; omega, by have := hlt q hq b e; omega⟩) h0 (fun q hq b e => ?_) H.soleC htl hb hown hA hw4⟩,
    ⟨{ w4 with heap := #[] }, Nat.zero_le _, hd.keep _ hO (fun b e e2 => ?_) (fun t q hq b e e2 => ?_)⟩, h.o.more hO fun b hbl e => ?_, Own.only h.row hO fun b o e e2 => ?_, h.old, h.mrow, h.drow, hs1, hs2, hs3, by omega⟩
  · obtain ⟨t, ht⟩ := List.mem_iff_getElem?.1 hq
    exact (ownG_form (H.ownC t q ht) b e).1
  · rcases e2 with e2 | rfl
    · exact ownG_ne hd.row hoi (by decide) b e e2
    · have := h.drow _ e; omega
  · rcases e2 with e2 | rfl
    · rcases e with e | e
      · exact ownG_ne (hd.done t q hq).1 hoi (by decide) b e e2
      · rcases hfi b e2 with h1 | h1
        · exact ownG_ne (H.ownD t q hq) (H.ownC i p hp) (by decide) b e h1
        · have := (H.sp b (.inl ⟨q, List.mem_of_getElem? hq, e⟩)).2; omega
    · rcases e with e | e
      · exact ownG_ne (hd.done t q hq).1 hc.row (by decide) b e rfl
      · have := (H.sp b (.inl ⟨q, List.mem_of_getElem? hq, e⟩)).2; omega
  · rcases e with e | rfl
    · rcases hfi b e with h1 | h1
      · exact .inr ⟨p, hpm, h1⟩
      · omega
    · omega
  · rcases e2 with e2 | e2
    · exact ownG_ne h.row hoi (by decide) b (by rw [e]; rfl) e2
    · have := h.old b (by rw [e]; rfl); omega
theorem TwoG.stepD {gM i c2 : Nat} {us : List Value} {p : LG} {A2 : Option Addr} (H : GrH w B l L cL) (h : TwoG w wr l B Ba Bc Bd AC cC mc GAc GCc AMc cMc md GAd GCd (some ⟨gM, 0, none⟩) cMd) (hp : (dataLs l)[i]? = some p)
    (htl : tlB i (md i) ++ us = tlB i (md i + 1)) (hb : Below wr.heap.size wr wx)
    (hown : Own w3 B 5 1 A2 (p.n + md i + 1) c2 ((mkB (dataLs l) i ++ tlB i (md i)) ++ us))
    (hA : (A2 = GAd i ∧ GAd i ≠ none ∧ wx.grownBy w3 ((GAd i).map (·.block))) ∨ ((∀ b o, A2 = some ⟨b, o, none⟩ → wx.heap.size ≤ b) ∧ wx.grownBy w3 none))
    (hw4 : w4 = w3.setCell ⟨gM, i, none⟩ (.slice A2 (p.n + md i + 1) c2)) :
    TwoG w w4 l B Ba Bc Bd AC cC mc GAc GCc AMc cMc (fun t => if t = i then md t + 1 else md t) (fun t => if t = i then A2 else GAd t) (fun t => if t = i then c2 else GCd t) (some ⟨gM, 0, none⟩) cMd := by
  obtain ⟨w0, h0, hc⟩ := h.c
  obtain ⟨w0', h0', hd⟩ := h.d
  have hO := hd.wrote hb hA hw4
  have hz := hO.size
  have hgM := h.drow gM rfl
  obtain ⟨hoi, -, hfi⟩ := hd.done i p hp
  have hpm := List.mem_of_getElem? hp
  have hs1 := h.s1; have hs2 := h.s2; have hs3 := h.s3; have hs4 := h.s4
  have hlt : ∀ q ∈ dataLs l, ∀ b, q.A.map (·.block) = some b → b < w.heap.size := fun q hq b e => (H.sp b (.inl ⟨q, hq, e⟩)).2
  refine ⟨⟨{ w4 with heap := #[] }, Nat.zero_le _, hc.keep _ hO (fun b e e2 => ?_) (fun t q hq b e e2 => ?_)⟩,
    ⟨w0', h0', hd.step hp (by decide) (fun q hq b e => ⟨by have := hlt q hq b e; omega, by have := hlt q hq b e; omega⟩) h0' (fun q hq b e => ?_) H.soleD htl hb hown hA hw4⟩, h.o.more hO fun b hbl e => ?_, Own.only h.row hO fun b o e e2 => ?_, h.old, h.mrow, h.drow, hs1, hs2, hs3, by omega⟩
  · rcases e2 with e2 | rfl
    · exact ownG_ne hc.row hoi (by decide) b e e2
    · have := h.mrow _ e; omega
  · rcases e2 with e2 | rfl
    · rcases e with e | e
      · exact ownG_ne (hc.done t q hq).1 hoi (by decide) b e e2
      · rcases hfi b e2 with h1 | h1
        · exact ownG_ne (H.ownC t q hq) (H.ownD i p hp) (by decide) b e h1
        · have := (H.sp b (.inr ⟨q, List.mem_of_getElem? hq, e⟩)).2; omega
    · rcases e with e | e
      · exact ownG_ne (hc.done t q hq).1 hd.row (by decide) b e rfl
      · have := (H.sp b (.inr ⟨q, List.mem_of_getElem? hq, e⟩)).2; omega
  · obtain ⟨t, ht⟩ := List.mem_iff_getElem?.1 hq
    exact (ownG_form (H.ownD t q ht) b e).1
  · rcases e with e | rfl
    · rcases hfi b e with h1 | h1
      · exact .inl ⟨p, hpm, h1⟩
      · omega
    · omega
  · rcases e2 with e2 | e2
    · exact ownG_ne h.row hoi (by decide) b (by rw [e]; rfl) e2
    · have h1 := h.old b (by rw [e]; rfl); omega
theorem TwoG.congr (h : TwoG w wr l B Ba Bc Bd AC cC mc GAc GCc AMc cMc md GAd GCd AMd cMd) {mc' md' : Nat → Nat} (h1 : ∀ t, t < (codeLs l).length → mc t = mc' t) (h2 : ∀ t, t < (dataLs l).length → md t = md' t) :
    TwoG w wr l B Ba Bc Bd AC cC mc' GAc GCc AMc cMc md' GAd GCd AMd cMd := by
  obtain ⟨w0, h0, hc⟩ := h.c
  obtain ⟨w0', h0', hd⟩ := h.d
  exact ⟨⟨w0, h0, hc.congr h1⟩, ⟨w0', h0', hd.congr h2⟩, h.o, h.row, h.old, h.mrow, h.drow, h.s1, h.s2, h.s3, h.s4⟩
end
/-- At the start: the row of code apart, the row of data apart. -/
theorem TwoG.start {w w2 w4 : World} {l : List PrgM} {B Ba cC cMc cMd cL : Nat} {L AC AMc AMd : Option Addr} (H : GrH w B l L cL) (ho : Only (SpG l) w w2) (hb : Below w2.heap.size w2 w4)
    (hC : ∀ t q, (codeLs l)[t]? = some q → Own w2 B 52 2 q.A q.n q.c (mkI (codeLs l) t)) (hD : ∀ t q, (dataLs l)[t]? = some q → Own w2 B 5 1 q.A q.n q.c (mkB (dataLs l) t))
    (hrow : Own w2 w.heap.size 48 1 AC (codeLs l).length cC ((codeLs l).map LG.val)) (hold : ∀ b, AC.map (·.block) = some b → b < Ba)
    (hM : Own w2 Ba 48 1 AMc (codeLs l).length cMc ((codeLs l).map LG.val)) (hMd : Own w4 w2.heap.size 22 1 AMd (dataLs l).length cMd ((dataLs l).map LG.val)) (hs : w.heap.size ≤ Ba) (hs2 : Ba ≤ w2.heap.size) :
    TwoG w w4 l B Ba w2.heap.size w4.heap.size AC cC (fun _ => 0) (fun t => ((codeLs l).map LG.A).getD t none) (fun t => ((codeLs l).map LG.c).getD t 0) AMc cMc (fun _ => 0) (fun t => ((dataLs l).map LG.A).getD t none) (fun t => ((dataLs l).map LG.c).getD t 0) AMd cMd := by
  have hz := hb.size
  have h1 := MoreG.start (tl := tlI) hC H.soleC hM (fun t => rfl)
  have hD4 : ∀ t q, (dataLs l)[t]? = some q → Own w4 B 5 1 q.A q.n q.c (mkB (dataLs l) t) := fun t q hq => Own.below (hD t q hq) hb (Nat.le_refl _)
  have h2 := MoreG.start (tl := tlB) hD4 H.soleD hMd (fun t => rfl)
  exact ⟨⟨{ w4 with heap := #[] }, Nat.zero_le _, h1.keep (fun _ => False) (Only.of_fresh hb) (fun _ _ h => h) (fun _ _ _ _ _ h => h)⟩, ⟨w4, Nat.le_refl _, h2⟩, ho.trans (Only.of_fresh hb), Own.below hrow hb (Nat.le_refl _), hold, fun b e => ⟨(Own.row hM b e).1, (Own.row hM b e).2⟩, fun b e => Own.row hMd b e, hs, hs2, hz, Nat.le_refl _⟩
/-- While the code is written: the data and the row of code stay. -/
structure Ph2 (w wr : World) (B : Nat) (l : List PrgM) (AC : Option Addr) (nC cC : Nat) : Prop where
  o : Only (SpG l) w wr
  d : ∀ t q, (dataLs l)[t]? = some q → Own wr B 5 1 q.A q.n q.c (mkB (dataLs l) t)
  row : Own wr w.heap.size 48 1 AC nC cC ((codeLs l).map LG.val)
theorem Ph2.set {w wr : World} {B : Nat} {l : List PrgM} {AC : Option Addr} {nC cC : Nat} (h : Ph2 w wr B l AC nC cC) {k g : Nat} {q : LG} (hq : (codeLs l)[k]? = some q) (hA : q.A = some ⟨g, 0, none⟩) {vs : List Value} {n c : Nat} (ho : Own wr B 52 2 (some ⟨g, 0, none⟩) n c vs) (j : Nat) (u : Value) :
    Ph2 w (wr.setCell ⟨g, j, none⟩ u) B l AC nC cC := by
  have hO : Only (fun b => b = g) wr (wr.setCell ⟨g, j, none⟩ u) := (Only.refl (fun b => b = g) wr).setCell (p := ⟨g, j, none⟩) (.inl rfl) u
  exact ⟨h.o.setCell (p := ⟨g, j, none⟩) (.inl (.inr ⟨q, List.mem_of_getElem? hq, by rw [hA]; rfl⟩)) u, fun t r hr => Own.only (h.d t r hr) hO fun b o e e2 => ownG_ne (h.d t r hr) ho (by decide) b (by rw [e]; rfl) (by rw [e2]; rfl),
    Own.only h.row hO fun b o e e2 => ownG_ne h.row ho (by decide) b (by rw [e]; rfl) (by rw [e2]; rfl)⟩
theorem Ph2.at_ {w wr : World} {B : Nat} {l : List PrgM} {AC : Option Addr} {nC cC k : Nat} {q : LG} (h : Ph2 w wr B l AC nC cC) (hq : (codeLs l)[k]? = some q) (hk : k < nC) :
    ∃ gC, AC = some ⟨gC, 0, none⟩ ∧ gC < wr.heap.size ∧ wr.cell? ⟨gC, k, none⟩ = some (.slice q.A q.n q.c) := by
  have hr := h.row
  obtain ⟨gC, hA, -, -⟩ := ownG_some hr (by omega)
  rw [hA] at hr
  have h1 := vals_get hq
  obtain ⟨a, b⟩ := List.getElem?_eq_some_iff.1 h1
  have h2 := ownG_at hr k a
  rw [b] at h2
  exact ⟨gC, hA, h2.2.2, h2.1⟩
end Go.Proofs.Ytadnjfoinmeloaa
