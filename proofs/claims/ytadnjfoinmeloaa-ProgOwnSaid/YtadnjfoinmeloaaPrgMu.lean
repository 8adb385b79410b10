/- A program of which every list is own, written to: plain. -/
import Derived.Test.YtadnjfoinmeloaaPrgTl
namespace Go.Proofs.Ytadnjfoinmeloaa
open Go.RowKit

theorem flat_set_same : ∀ (ls : List FunM) (i : Nat) (f g : FunM), ls[i]? = some f → funCells g = funCells f → (ls.set i g).flatMap funCells = ls.flatMap funCells := by
  intro ls
  induction ls with
  | nil => intro i f g h; cases h
  | cons y ls ih =>
    intro i f g h e
    cases i with
    | zero => simp at h; subst h; rw [List.set_cons_zero, List.flatMap_cons, List.flatMap_cons, e]
    | succ i => rw [List.set_cons_succ, List.flatMap_cons, List.flatMap_cons, ih i f g (by simpa using h) e]
theorem funCells_set2 : ∀ (ls : List FunM) (i : Nat) (x : FunM) (r : Int), ls[i]? = some x →
    (ls.flatMap funCells).set (i * 4 + 2) (.int .i64 r) = (ls.set i ⟨x.args, x.locals, r, x.A, x.c, x.code⟩).flatMap funCells := by
  intro ls
  induction ls with
  | nil => intro i x r h; cases h
  | cons y ls ih =>
    intro i x r h
    cases i with
    | zero => simp at h; subst h; rfl
    | succ i =>
      rw [List.set_cons_succ, List.flatMap_cons, List.flatMap_cons, ← ih i x r (by simpa using h), show (i + 1) * 4 + 2 = (i * 4 + 2) + 4 from by omega]
      rfl
theorem insCells_set1 (ls : List Ins) (k : Nat) (x : Ins) (h : k < ls.length) : ((ls.flatMap insCells).set (k * 2) (.int .i64 x.op)).set (k * 2 + 1) (.int .i64 x.a) = (ls.set k x).flatMap insCells := by
  induction ls generalizing k with
  | nil => cases h
  | cons y ls ih =>
    cases k with
    | zero => rfl
    | succ k =>
      rw [List.set_cons_succ, List.flatMap_cons, List.flatMap_cons, ← ih k (by simpa using h), show (k + 1) * 2 = k * 2 + 2 from by omega]
      rfl
theorem set_get {α : Type} (ls : List α) (i j : Nat) (f g x : α) (hi : ls[i]? = some f) (h : (ls.set i g)[j]? = some x) : (j = i ∧ x = g) ∨ (j ≠ i ∧ ls[j]? = some x) := by
  by_cases e : j = i
  · subst e
    rw [List.getElem?_set_self (List.getElem?_eq_some_iff.1 hi).1] at h
    injection h with h
    exact .inl ⟨rfl, h.symm⟩
  · rw [List.getElem?_set_ne (fun h => e h.symm)] at h
    exact .inr ⟨e, h⟩
/-- The row behind a change of one function whose code lies where it lay. -/
theorem MineR.change {w w' : World} {base i : Nat} {hs : List FunM} {f g : FunM} (h : MineR w base hs) (hi : hs[i]? = some f) (hA : g.A = f.A) (hg : Own w' base 52 2 g.A g.code.length g.c (g.code.flatMap insCells))
    (hk : ∀ j x, j ≠ i → hs[j]? = some x → Own w' base 52 2 x.A x.code.length x.c (x.code.flatMap insCells)) : MineR w' base (hs.set i g) := by
  refine ⟨fun x hx => ?_, fun a b x y ha hb hab k hk1 hk2 => ?_⟩
  · obtain ⟨j, hj⟩ := List.mem_iff_getElem?.1 hx
    rcases set_get hs i j f g x hi hj with ⟨-, rfl⟩ | ⟨h1, h2⟩
    · exact hg
    · exact hk j x h1 h2
  · rcases set_get hs i a f g x hi ha with ⟨rfl, rfl⟩ | ⟨h1, h2⟩
    · rcases set_get hs a b f x y hi hb with ⟨rfl, rfl⟩ | ⟨h3, h4⟩
      · exact hab rfl
      · exact h.apart a b f y hi h4 hab k (by rw [← hA]; exact hk1) hk2
    · rcases set_get hs i b f g y hi hb with ⟨rfl, rfl⟩ | ⟨h3, h4⟩
      · exact h.apart a b x f h2 hi hab k hk1 (by rw [← hA]; exact hk2)
      · exact h.apart a b x y h2 h4 hab k hk1 hk2
theorem mine_code {w : World} {base : Nat} {q : PrgM} (h : PrgMine w base q) (hok : PrgOk q.plain) (i : Nat) (f : FunM) (hf : q.fs[i]? = some f) (gc : Nat) (hA : f.A = some ⟨gc, 0, none⟩) (k : Nat) (hk : k < f.code.length) (x : Ins) (hx : InsOk x) :
    ∃ q' : PrgM, q'.val = q.val ∧ q'.fs[i]? = some ⟨f.args, f.locals, f.results, f.A, f.c, f.code.set k x⟩ ∧ PrgOk q'.plain ∧ PrgMine ((w.setCell ⟨gc, k * 2, none⟩ (.int .i64 x.op)).setCell ⟨gc, k * 2 + 1, none⟩ (.int .i64 x.a)) base q' := by
  have hO : Only (fun b => b = gc) w ((w.setCell ⟨gc, k * 2, none⟩ (.int .i64 x.op)).setCell ⟨gc, k * 2 + 1, none⟩ (.int .i64 x.a)) :=
    ((Only.refl (fun b => b = gc) w).setCell (p := ⟨gc, k * 2, none⟩) (.inl rfl) _).setCell (p := ⟨gc, k * 2 + 1, none⟩) (.inl rfl) _
  have hfm := List.mem_of_getElem? hf
  have hcode := h.row.code f hfm
  have hil := (List.getElem?_eq_some_iff.1 hf).1
  refine ⟨⟨q.mem, q.AD, q.cD, q.data, q.AF, q.cF, q.fs.set i ⟨f.args, f.locals, f.results, f.A, f.c, f.code.set k x⟩⟩, ?_, List.getElem?_set_self hil, ⟨hok.dlen, ?_, hok.m1, hok.m2, fun g hg => ?_⟩, ?_, ?_, ?_⟩
  · dsimp only [PrgM.val]
    rw [List.length_set]
  · have h1 := hok.flen
    change (q.fs.map FunM.plain).length ≤ _ at h1
    show ((q.fs.set i _).map FunM.plain).length ≤ _
    rw [List.length_map] at h1 ⊢
    rwa [List.length_set]
  · obtain ⟨y, hy, rfl⟩ := List.mem_map.1 hg
    obtain ⟨j, hj⟩ := List.mem_iff_getElem?.1 hy
    rcases set_get q.fs i j f _ y hf hj with ⟨-, rfl⟩ | ⟨-, h2⟩
    · obtain ⟨h1, h2, h3⟩ := hok.fs f.plain (List.mem_map.2 ⟨f, hfm, rfl⟩)
      refine ⟨fun z hz => ?_, by show (f.code.set k x).length ≤ _; rw [List.length_set]; exact h2, h3⟩
      rcases List.mem_or_eq_of_mem_set hz with hz | rfl
      · exact h1 z hz
      · exact hx
    · exact hok.fs y.plain (List.mem_map.2 ⟨y, List.mem_of_getElem? h2, rfl⟩)
  · exact Own.only h.data hO fun b o e e2 => own_ne h.data hcode (by decide) b (by rw [e]; rfl) (by rw [hA, e2]; rfl)
  · have e : (q.fs.set i ⟨f.args, f.locals, f.results, f.A, f.c, f.code.set k x⟩).flatMap funCells = q.fs.flatMap funCells := flat_set_same q.fs i f _ hf (by simp only [funCells, List.length_set])
    show Own _ base _ 4 q.AF (q.fs.set i _).length q.cF ((q.fs.set i _).flatMap funCells)
    rw [e, List.length_set]
    exact Own.only h.funs hO fun b o e e2 => own_ne h.funs hcode (by decide) b (by rw [e]; rfl) (by rw [hA, e2]; rfl)
  · refine h.row.change hf rfl ?_ fun j y hj hy => ?_
    · show Own _ base _ 2 f.A (f.code.set k x).length f.c ((f.code.set k x).flatMap insCells)
      rw [List.length_set, hA, ← insCells_set1 f.code k x hk]
      rw [hA] at hcode
      exact own_set (own_set hcode (k * 2) _) (k * 2 + 1) _
    · exact Own.only (h.row.code y (List.mem_of_getElem? hy)) hO fun b o e e2 => h.row.apart j i y f hy hf hj b (by rw [e]; rfl) (by rw [hA, e2]; rfl)
theorem mine_res {w : World} {base : Nat} {q : PrgM} (h : PrgMine w base q) (hok : PrgOk q.plain) (i : Nat) (f : FunM) (hf : q.fs[i]? = some f) (gf : Nat) (hA : q.AF = some ⟨gf, 0, none⟩) (r : Int) (hr : -9223372036854775808 ≤ r ∧ r ≤ 9223372036854775807) :
    ∃ q' : PrgM, q'.val = q.val ∧ PrgOk q'.plain ∧ PrgMine (w.setCell ⟨gf, i * 4 + 2, none⟩ (.int .i64 r)) base q' := by
  have hO : Only (fun b => b = gf) w (w.setCell ⟨gf, i * 4 + 2, none⟩ (.int .i64 r)) := (Only.refl (fun b => b = gf) w).setCell (p := ⟨gf, i * 4 + 2, none⟩) (.inl rfl) _
  have hfm := List.mem_of_getElem? hf
  have hil := (List.getElem?_eq_some_iff.1 hf).1
  have hfun := h.funs
  have hcd : ∀ y ∈ q.fs, Own (w.setCell ⟨gf, i * 4 + 2, none⟩ (.int .i64 r)) base 52 2 y.A y.code.length y.c (y.code.flatMap insCells) := fun y hy =>
    Own.only (h.row.code y hy) hO fun b o e e2 => own_ne (h.row.code y hy) hfun (by decide) b (by rw [e]; rfl) (by rw [hA, e2]; rfl)
  refine ⟨⟨q.mem, q.AD, q.cD, q.data, q.AF, q.cF, q.fs.set i ⟨f.args, f.locals, r, f.A, f.c, f.code⟩⟩, ?_, ⟨hok.dlen, ?_, hok.m1, hok.m2, fun g hg => ?_⟩, ?_, ?_, ?_⟩
  · dsimp only [PrgM.val]
    rw [List.length_set]
  · have h1 := hok.flen
    change (q.fs.map FunM.plain).length ≤ _ at h1
    show ((q.fs.set i _).map FunM.plain).length ≤ _
    rw [List.length_map] at h1 ⊢
    rwa [List.length_set]
  · obtain ⟨y, hy, rfl⟩ := List.mem_map.1 hg
    obtain ⟨j, hj⟩ := List.mem_iff_getElem?.1 hy
    rcases set_get q.fs i j f _ y hf hj with ⟨-, rfl⟩ | ⟨-, h2⟩
    · obtain ⟨h1, h2, h3, h4, h5, h6, -, -⟩ := hok.fs f.plain (List.mem_map.2 ⟨f, hfm, rfl⟩)
      exact ⟨h1, h2, h3, h4, h5, h6, hr.1, hr.2⟩
    · exact hok.fs y.plain (List.mem_map.2 ⟨y, List.mem_of_getElem? h2, rfl⟩)
  · exact Own.only h.data hO fun b o e e2 => own_ne h.data hfun (by decide) b (by rw [e]; rfl) (by rw [hA, e2]; rfl)
  · show Own _ base _ 4 q.AF (q.fs.set i _).length q.cF ((q.fs.set i _).flatMap funCells)
    rw [List.length_set, ← funCells_set2 q.fs i f r hf]
    rw [hA] at hfun ⊢
    exact own_set hfun (i * 4 + 2) _
  · exact h.row.change hf rfl (hcd f hfm) fun j y hj hy => hcd y (List.mem_of_getElem? hy)
theorem mine_data {w : World} {base : Nat} {q : PrgM} (h : PrgMine w base q) (hok : PrgOk q.plain) (gd : Nat) (hA : q.AD = some ⟨gd, 0, none⟩) (j : Nat) (u : UInt8) :
    ∃ q' : PrgM, q'.val = q.val ∧ PrgOk q'.plain ∧ PrgMine (w.setCell ⟨gd, j, none⟩ (bv u)) base q' := by
  have hO : Only (fun b => b = gd) w (w.setCell ⟨gd, j, none⟩ (bv u)) := (Only.refl (fun b => b = gd) w).setCell (p := ⟨gd, j, none⟩) (.inl rfl) _
  have hdat := h.data
  refine ⟨⟨q.mem, q.AD, q.cD, q.data.set j u, q.AF, q.cF, q.fs⟩, ?_, ⟨?_, hok.flen, hok.m1, hok.m2, hok.fs⟩, ?_, ?_, ?_⟩
  · dsimp only [PrgM.val]
    rw [List.length_set]
  · show (q.data.set j u).length ≤ _
    rw [List.length_set]
    exact hok.dlen
  · show Own _ base _ 1 q.AD (q.data.set j u).length q.cD ((q.data.set j u).map bv)
    rw [List.length_set, List.map_set]
    have h1 : Own w base 5 1 q.AD q.data.length q.cD (q.data.map bv) := hdat
    rw [hA] at h1 ⊢
    exact own_set h1 j (bv u)
  · exact Own.only h.funs hO fun b o e e2 => own_ne h.funs hdat (by decide) b (by rw [e]; rfl) (by rw [hA, e2]; rfl)
  · exact h.row.only hO fun f hf b e e2 => own_ne (h.row.code f hf) hdat (by decide) b e (by rw [hA, e2]; rfl)
theorem u8_of (z : Int) (h0 : 0 ≤ z) (h1 : z < 256) : ∃ u : UInt8, Value.int .u8 z = bv u := by
  refine ⟨UInt8.ofNat z.toNat, ?_⟩
  unfold bv
  congr 1
  have : (UInt8.ofNat z.toNat).toNat = z.toNat := by rw [UInt8.toNat_ofNat']; omega
  rw [this]
  omega
end Go.Proofs.Ytadnjfoinmeloaa
