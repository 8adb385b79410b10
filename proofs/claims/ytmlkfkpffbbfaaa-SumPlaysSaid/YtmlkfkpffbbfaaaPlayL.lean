/- The script of SumPlays: opened; the three Hashes and what was written to each. -/
import Derived.Test.YtmlkfkpffbbfaaaOpenP
import Derived.Test.YtmlkfkpffbbfaaaShaWr
import Derived.Test.YtmlkfkpffbbfaaaRfK
namespace Go.Proofs.Ytmlkfkpffbbfaaa
open Go.ChangeShapes Go.WideShapes Go.ChangeAt Go.RowKit

/-- One step. -/
structure StepI where
  who : Int
  kind : Int
  A : Option Addr
  c : Nat
  ys : List UInt8
def stepCells (s : StepI) : List Value := [.int .i64 s.who, .int .i64 s.kind, .slice s.A s.ys.length s.c]
structure GoodS (w : World) (s : StepI) : Prop where
  rv : RV w s.A (s.ys.map bv)
  nil : s.A = none → s.ys.length = 0 ∧ s.c = 0
  cap : s.ys.length ≤ s.c
  max : s.c ≤ maxLen
  len : s.ys.length ≤ 140737488351232
  w1 : -9223372036854775808 ≤ s.who
  w2 : s.who ≤ 9223372036854775807
theorem GoodS.below {w w' : World} {s : StepI} (h : GoodS w s) (hb : Below w.heap.size w w') : GoodS w' s := ⟨h.rv.below hb, h.nil, h.cap, h.max, h.len, h.w1, h.w2⟩
theorem stepCells_len (l : List StepI) : (l.flatMap stepCells).length = l.length * 3 := by
  induction l with
  | nil => rfl
  | cons x l ih => rw [List.flatMap_cons, List.length_append, ih, List.length_cons]; simp [stepCells]; omega
theorem stepCells_get (l : List StepI) (k j : Nat) (hk : k < l.length) (hj : j < 3) : (l.flatMap stepCells)[k * 3 + j]? = (stepCells l[k])[j]? := by
  induction l generalizing k with
  | nil => cases hk
  | cons x l ih =>
    rw [List.flatMap_cons]
    cases k with
    | zero =>
      rw [Nat.zero_mul, Nat.zero_add, List.getElem?_append_left (by simp [stepCells]; omega)]
      rfl
    | succ k =>
      rw [List.getElem?_append_right (by simp [stepCells]; omega), show (k + 1) * 3 + j - (stepCells x).length = k * 3 + j from by simp [stepCells]; omega]
      exact ih k (by simpa using hk)
theorem step_fields : (Try.prog.underlying 39).map (fun d => match d with | .struct fs => fs.toList.map (fun f => (f.type, f.offset)) | _ => []) = some [(3, 0), (3, 1), (25, 2)] := by kernel_rfl
theorem step_cells : Try.prog.cellsOf 39 = 3 := by kernel_rfl
theorem three_of {α : Type} (l : List α) (h : l.length = 3) : ∃ a b c, l = [a, b, c] := by
  match l, h with
  | [a, b, c], _ => exact ⟨a, b, c, rfl⟩
section
variable {H : Type} {enc : TypeId × Value → H} {w : World} {base : Nat} {spare : Nat → Bool} {held : Bool}
theorem fields_of {P : Program} {t : TypeId} {l : List (TypeId × Nat)} (h : (P.underlying t).map (fun d => match d with | .struct fs => fs.toList.map (fun f => (f.type, f.offset)) | _ => []) = some l) (hl : l ≠ []) :
    ∃ fs : Array Field, P.underlying t = some (.struct fs) ∧ fs.toList.map (fun f => (f.type, f.offset)) = l := by
  obtain ⟨d, hd, h1⟩ := Option.map_eq_some_iff.1 h
  cases d <;> first | exact ⟨_, hd, h1⟩ | exact absurd h1.symm hl
/-- A struct opened, field by field. -/
theorem open_fields {P : Program} {t : TypeId} {l : List (TypeId × Nat)} (hu : (P.underlying t).map (fun d => match d with | .struct fs => fs.toList.map (fun f => (f.type, f.offset)) | _ => []) = some l) (hl : l ≠ [])
    {fuel : Nat} {cs : List Value} {x : DataW H × List MemPlace} (h : DataW.trod enc P w base spare held fuel t cs = some x) (hw : Wt P t x.1) :
    cs.length = P.cellsOf t ∧ ∃ (n : Nat), ∀ (i : Nat) (ft : TypeId) (o : Nat), l[i]? = some (ft, o) → ∃ y, DataW.trod enc P w base spare held n ft ((cs.drop o).take (P.cellsOf ft)) = some y ∧ Wt P ft y.1 := by
  obtain ⟨fs, hfs, hfl⟩ := fields_of hu hl
  obtain ⟨xs, n, _, rfl, hlen, hxl, hx⟩ := DataW.trod_struct hfs h
  refine ⟨hlen, n, fun i ft o hi => ?_⟩
  rw [← hfl, List.getElem?_map] at hi
  obtain ⟨f, hf, hfe⟩ := Option.map_eq_some_iff.1 hi
  injection hfe with e1 e2
  subst e1 e2
  have hf' : fs[i]? = some f := by simpa using hf
  have hxi := hx i f hf'
  have hi' : i < xs.length := by rw [hxl]; exact (Array.getElem?_eq_some_iff.1 hf').1
  rw [List.getElem?_eq_getElem hi'] at hxi
  refine ⟨xs[i], hxi, fun m hm => ?_⟩
  have hall := wt_struct hfs hw
  have hmem := DataW.weights_mem_each (P := P) (ts := fs.toList.map (·.type)) (ds := xs.map (·.1)) (j := i) (t := f.type) (d := xs[i].1) (by rw [List.getElem?_map, hf]; rfl) (by rw [List.getElem?_map, List.getElem?_eq_getElem hi']; rfl) m hm
  have := List.all_eq_true.1 hall m hmem
  simpa using this
theorem open_step {fuel : Nat} {cs : List Value} {x : DataW H × List MemPlace} (h : DataW.trod enc Try.prog w base spare held fuel 39 cs = some x) (hw : Wt Try.prog 39 x.1) :
    ∃ y : StepI, cs = stepCells y ∧ GoodS w y := by
  obtain ⟨hlen, n, hf⟩ := open_fields step_fields (by simp) h hw
  rw [step_cells] at hlen
  obtain ⟨a, b, c, rfl⟩ := three_of cs hlen
  obtain ⟨y0, h0, _⟩ := hf 0 _ _ rfl
  obtain ⟨y1, h1, _⟩ := hf 1 _ _ rfl
  obtain ⟨y2, h2, w2⟩ := hf 2 _ _ rfl
  rw [show Try.prog.cellsOf 3 = 1 from by kernel_rfl] at h0 h1
  rw [show Try.prog.cellsOf 25 = 1 from by kernel_rfl] at h2
  obtain ⟨k, e0, _, wk⟩ := DataW.trod_int Try.underlying3 h0
  obtain ⟨m, e1, _, wm⟩ := DataW.trod_int Try.underlying3 h1
  obtain ⟨p, e2, g1, g2, g3, g4, g5⟩ := open_part h2 w2
  simp only [List.drop_zero, List.take_succ_cons, List.take_zero, List.cons.injEq, and_true, List.drop_succ_cons, PartB.cells] at e0 e1 e2
  subst e0 e1 e2
  have bk := bounds_i64 wk
  exact ⟨⟨k, m, p.A, p.c, p.ys⟩, rfl, ⟨g1, g2, g3, g4, g5, bk.1, bk.2⟩⟩
set_option maxRecDepth 100000 in
theorem arg_script {r : Reach} {b : Nat} {v : Value} {d : DataW H} {ps : List MemPlace}
    (hv : Value.okWide Try.prog w r b 37 v) (h : DataW.Trod enc Try.prog w base spare held 37 v d ps) (hw : Wt Try.prog 37 d) :
    ∃ (A : Option Addr) (c : Nat) (l : List StepI), v = .slice A l.length c ∧ (RV w A (l.flatMap stepCells) ∧ ∀ s ∈ l, GoodS w s) ∧ l.length ≤ 3518437208780 := by
  obtain ⟨a, l, c, rfl⟩ := okWide_slice Try.underlying37 hv
  obtain ⟨fuel, hf⟩ := h
  obtain ⟨A, c', ys, e1, hrv, _, hlc, hcm, hb, hg⟩ := open_sliceOf stepCells (GoodS w) Try.underlying37 step_cells (by decide) (fun fuel cs x hx hw => open_step hx hw) hf hw
  rw [show Try.prog.bytesOf 39 = 40 from by kernel_rfl] at hb
  have hb2 : ys.length ≤ 3518437208780 := by
    have h3 : ys.length * 40 ≤ 140737488351232 := hb
    omega
  exact ⟨A, c', ys, by simpa [Value.cells] using e1, ⟨hrv, hg⟩, hb2⟩
end

/-! ### The three Hashes -/
def lRow (n : Nat) (hs : Nat → Nat) : List Value := (List.range 3).map fun j => if j < n then .pointer (some ⟨hs j, 0, none⟩) else .pointer none
def aRow (xs : Nat → List UInt8) (A : Nat → Option Addr) (c : Nat → Nat) : List Value := (List.range 3).map fun j => .slice (A j) (xs j).length (c j)
def upd {α : Type} (f : Nat → α) (k : Nat) (x : α) : Nat → α := fun j => if j = k then x else f j
theorem upd_self {α : Type} (f : Nat → α) (k : Nat) (x : α) : upd f k x k = x := if_pos rfl
theorem upd_ne {α : Type} (f : Nat → α) (k : Nat) (x : α) {j : Nat} (h : j ≠ k) : upd f k x j = f j := if_neg h
theorem upd_const {α : Type} (k : Nat) (x : α) : upd (fun _ => x) k x = fun _ => x := funext fun j => by unfold upd; split <;> rfl
theorem upd_same {α : Type} (f : Nat → α) (k : Nat) : upd f k (f k) = f := funext fun j => by unfold upd; split <;> simp_all
theorem upd_upd {α : Type} (f : Nat → α) (k : Nat) (x y : α) : upd (upd f k x) k y = upd f k y := funext fun j => by unfold upd; split <;> rfl
theorem lRow_at (n : Nat) (hs : Nat → Nat) (k : Nat) (hk : k < n) (h3 : k < 3) : (lRow n hs)[k]? = some (.pointer (some ⟨hs k, 0, none⟩)) := by
  unfold lRow
  rw [List.getElem?_map, List.getElem?_range h3]
  exact congrArg some (if_pos hk)
theorem aRow_at (xs : Nat → List UInt8) (A : Nat → Option Addr) (c : Nat → Nat) (k : Nat) (h3 : k < 3) : (aRow xs A c)[k]? = some (.slice (A k) (xs k).length (c k)) := by
  unfold aRow
  rw [List.getElem?_map, List.getElem?_range h3]
  rfl
theorem lRow_set (n m : Nat) (hs : Nat → Nat) (k g : Nat) (h3 : k < 3) (hm : (k < n ∧ m = n) ∨ (k = n ∧ m = n + 1)) : (lRow n hs).set k (.pointer (some ⟨g, 0, none⟩)) = lRow m (upd hs k g) := by
  refine List.ext_getElem? fun j => ?_
  unfold lRow
  rcases Nat.lt_or_ge j 3 with hj | hj
  · by_cases hjk : k = j
    · subst hjk
      rw [List.getElem?_set_self (by simpa using h3), List.getElem?_map, List.getElem?_range h3]
      show _ = some (if k < m then _ else _)
      rw [if_pos (by omega), upd_self]
    · rw [List.getElem?_set_ne hjk, List.getElem?_map, List.getElem?_map, List.getElem?_range hj]
      show some (if j < n then _ else _) = some (if j < m then _ else _)
      rw [upd_ne _ _ _ (Ne.symm hjk)]
      by_cases h : j < n
      · rw [if_pos h, if_pos (by omega)]
      · rw [if_neg h, if_neg (by omega)]
  · rw [List.getElem?_eq_none (by simpa using hj), List.getElem?_eq_none (by simpa using hj)]
theorem aRow_set (xs : Nat → List UInt8) (A : Nat → Option Addr) (c : Nat → Nat) (k : Nat) (ys : List UInt8) (A' : Option Addr) (c' : Nat) (h3 : k < 3) : (aRow xs A c).set k (.slice A' ys.length c') = aRow (upd xs k ys) (upd A k A') (upd c k c') := by
  refine List.ext_getElem? fun j => ?_
  unfold aRow
  rcases Nat.lt_or_ge j 3 with hj | hj
  · by_cases hjk : k = j
    · subst hjk
      rw [List.getElem?_set_self (by simpa using h3), List.getElem?_map, List.getElem?_range h3]
      show _ = some (Value.slice (upd A k A' k) (upd xs k ys k).length (upd c k c' k))
      rw [upd_self, upd_self, upd_self]
    · rw [List.getElem?_set_ne hjk, List.getElem?_map, List.getElem?_map, List.getElem?_range hj]
      show some _ = some (Value.slice (upd A k A' j) (upd xs k ys j).length (upd c k c' j))
      rw [upd_ne _ _ _ (Ne.symm hjk), upd_ne _ _ _ (Ne.symm hjk), upd_ne _ _ _ (Ne.symm hjk)]
  · rw [List.getElem?_eq_none (by simpa using hj), List.getElem?_eq_none (by simpa using hj)]
/-- Three Hashes (n of them made), what each took, the three lists. -/
structure Play (w : World) (B gl ga n : Nat) (hs : Nat → Nat) (ys xs : Nat → List UInt8) (A : Nat → Option Addr) (c : Nat → Nat) : Prop where
  l : Blk w gl 41 (lRow n hs).toArray
  a : Blk w ga 42 (aRow xs A c).toArray
  h : ∀ k, k < n → HashV w (hs k) (ys k)
  hne : ∀ i j, i < n → j < n → i ≠ j → hs i ≠ hs j
  own : ∀ k, k < 3 → OwnB w B (A k) (xs k).length (c k) (xs k)
  ane : ∀ i j, i < 3 → j < 3 → i ≠ j → ∀ b, (A i).map (·.block) = some b → (A j).map (·.block) ≠ some b
  hB : ∀ k, k < n → B ≤ hs k
  lB : B ≤ gl
  aB : B ≤ ga
theorem own_form {w : World} {base n c : Nat} {A : Option Addr} {ys : List UInt8} (h : OwnB w base A n c ys) (b : Nat) (hb : A.map (·.block) = some b) : A = some ⟨b, 0, none⟩ ∧ ∃ cs fz, w.heap[b]? = some (.cells cs 5 fz) := by
  rcases h.2 with ⟨hv, hn⟩ | ⟨g', cap, cur, hv, hg', hh, r⟩
  · injection hv with h2; rw [h2] at hb; cases hb
  · have hA' : A = some ⟨g', 0, none⟩ := by injection hv
    rw [hA'] at hb ⊢
    simp at hb
    subst hb
    exact ⟨rfl, _, _, hh⟩
theorem own_far {w : World} {base n c g : Nat} {A : Option Addr} {ys : List UInt8} {t : TypeId} {cs : Array Value} (h : OwnB w base A n c ys) (hb : Blk w g t cs) (hne : 5 ≠ t) : A.map (·.block) ≠ some g := fun e => by
  obtain ⟨-, cs', fz, h3⟩ := own_form h g e
  unfold Blk at hb
  rw [hb] at h3
  injection h3 with h4
  injection h4 with _ h5 _
  exact hne h5.symm
theorem HashV.ne {w : World} {g g2 : Nat} {xs : List UInt8} {t : TypeId} {cs : Array Value} (h : HashV w g xs) (hb : Blk w g2 t cs) (hne : 51 ≠ t) : g ≠ g2 := by
  rintro rfl
  obtain ⟨ws, begun, rest, n, hh, _⟩ := h
  unfold Blk at hh hb
  rw [hh] at hb
  injection hb with h4
  injection h4 with _ h5 _
  exact hne h5
theorem Play.only {S : Nat → Prop} {w w' : World} {B gl ga n : Nat} {hs : Nat → Nat} {ys xs : Nat → List UInt8} {A : Nat → Option Addr} {c : Nat → Nat} (h : Play w B gl ga n hs ys xs A c) (ho : Only S w w')
    (hl : ¬ S gl) (ha : ¬ S ga) (hh : ∀ k, k < n → ¬ S (hs k)) (hA : ∀ k, k < 3 → ∀ b, (A k).map (·.block) = some b → ¬ S b) : Play w' B gl ga n hs ys xs A c :=
  ⟨h.l.only ho hl, h.a.only ho ha, fun k hk => (h.h k hk).only ho (hh k hk), h.hne, fun k hk => Own.only (h.own k hk) ho fun b o e => hA k hk b (by rw [e]; rfl), h.ane, h.hB, h.lB, h.aB⟩
theorem Play.below {w w' : World} {B gl ga n : Nat} {hs : Nat → Nat} {ys xs : Nat → List UInt8} {A : Nat → Option Addr} {c : Nat → Nat} (h : Play w B gl ga n hs ys xs A c) (hb : Below w.heap.size w w') : Play w' B gl ga n hs ys xs A c :=
  h.only (S := fun _ => False) (Only.of_fresh hb) (fun h => h) (fun h => h) (fun _ _ h => h) (fun _ _ _ _ h => h)
/-- A Hash turned. -/
theorem Play.turn {w w' : World} {B gl ga n k : Nat} {hs : Nat → Nat} {ys xs : Nat → List UInt8} {A : Nat → Option Addr} {c : Nat → Nat} {zs : List UInt8} (h : Play w B gl ga n hs ys xs A c) (hk : k < n) (ho : Only (fun b => b = hs k) w w') (hz : HashV w' (hs k) zs) :
    Play w' B gl ga n hs (upd ys k zs) xs A c := by
  have hb := (h.h k hk)
  refine ⟨h.l.only ho (Ne.symm (hb.ne h.l (by decide))), h.a.only ho (Ne.symm (hb.ne h.a (by decide))), fun j hj => ?_, h.hne, fun j hj => Own.only (h.own j hj) ho fun b o e e2 => ?_, h.ane, h.hB, h.lB, h.aB⟩
  · by_cases hjk : j = k
    · subst hjk; rw [upd_self]; exact hz
    · rw [upd_ne _ _ _ hjk]; exact (h.h j hj).only ho (h.hne j k hj hk hjk)
  · obtain ⟨ws, begun, rest, n', hh, _⟩ := hb
    exact own_far (h.own j hj) hh (by decide) (by rw [e, e2]; rfl)
/-- A list set; its elder bytes need not stand any more. -/
theorem play_setA {w : World} {B gl ga n k : Nat} {hs : Nat → Nat} {ys xs : Nat → List UInt8} {A : Nat → Option Addr} {c : Nat → Nat} {zs : List UInt8} {A' : Option Addr} {c' : Nat}
    (hl : Blk w gl 41 (lRow n hs).toArray) (ha : Blk w ga 42 (aRow xs A c).toArray) (hh : ∀ k, k < n → HashV w (hs k) (ys k)) (hhne : ∀ i j, i < n → j < n → i ≠ j → hs i ≠ hs j)
    (hown : ∀ j, j < 3 → j ≠ k → OwnB w B (A j) (xs j).length (c j) (xs j)) (hane : ∀ i j, i < 3 → j < 3 → i ≠ j → ∀ b, (A i).map (·.block) = some b → (A j).map (·.block) ≠ some b) (hB : ∀ k, k < n → B ≤ hs k) (lB : B ≤ gl) (aB : B ≤ ga)
    (hk : k < 3) (hz : OwnB w B A' zs.length c' zs)
    (hne : ∀ j, j < 3 → j ≠ k → ∀ b, (A j).map (·.block) = some b → A'.map (·.block) ≠ some b) : Play (w.setCell ⟨ga, k, none⟩ (.slice A' zs.length c')) B gl ga n hs ys (upd xs k zs) (upd A k A') (upd c k c') := by
  have ho : Only (fun b => b = ga) w (w.setCell ⟨ga, k, none⟩ (.slice A' zs.length c')) := (Only.refl (fun b => b = ga) w).setCell (p := ⟨ga, k, none⟩) (.inl rfl) _
  have hla : gl ≠ ga := fun e => by
    have h1 := hl
    have h2 := ha
    unfold Blk at h1 h2
    rw [e, h2] at h1
    injection h1 with h4
    injection h4 with _ h5 _
    exact absurd h5 (by decide)
  refine ⟨hl.only ho hla, ?_, fun j hj => (hh j hj).only ho ((hh j hj).ne ha (by decide)), hhne, fun j hj => ?_, fun i j hi hj hij b e => ?_, hB, lB, aB⟩
  · have := ha.setL k (.slice A' zs.length c')
    rwa [aRow_set xs A c k zs A' c' hk] at this
  · by_cases hjk : j = k
    · subst hjk
      rw [upd_self, upd_self, upd_self]
      exact Own.only hz ho fun b o e e2 => own_far hz ha (by decide) (by rw [e, e2]; rfl)
    · rw [upd_ne _ _ _ hjk, upd_ne _ _ _ hjk, upd_ne _ _ _ hjk]
      exact Own.only (hown j hj hjk) ho fun b o e e2 => own_far (hown j hj hjk) ha (by decide) (by rw [e, e2]; rfl)
  · by_cases hik : i = k
    · subst hik
      rw [upd_self] at e
      rw [upd_ne _ _ _ (Ne.symm hij)]
      exact fun e2 => hne j hj (Ne.symm hij) b e2 e
    · rw [upd_ne _ _ _ hik] at e
      by_cases hjk : j = k
      · subst hjk
        rw [upd_self]
        exact hne i hi hik b e
      · rw [upd_ne _ _ _ hjk]
        exact hane i j hi hj hij b e
theorem Play.setA {w : World} {B gl ga n k : Nat} {hs : Nat → Nat} {ys xs : Nat → List UInt8} {A : Nat → Option Addr} {c : Nat → Nat} {zs : List UInt8} {A' : Option Addr} {c' : Nat} (h : Play w B gl ga n hs ys xs A c) (hk : k < 3) (hz : OwnB w B A' zs.length c' zs)
    (hne : ∀ j, j < 3 → j ≠ k → ∀ b, (A j).map (·.block) = some b → A'.map (·.block) ≠ some b) : Play (w.setCell ⟨ga, k, none⟩ (.slice A' zs.length c')) B gl ga n hs ys (upd xs k zs) (upd A k A') (upd c k c') :=
  play_setA h.l h.a h.h h.hne (fun j hj _ => h.own j hj) h.ane h.hB h.lB h.aB hk hz hne
/-- A list appended to. -/
theorem Play.app {w wd w2 : World} {B gl ga n k c2 : Nat} {hs : Nat → Nat} {ys xs : Nat → List UInt8} {A : Nat → Option Addr} {c : Nat → Nat} {zs : List UInt8} {A2 : Option Addr} (h : Play w B gl ga n hs ys xs A c) (hk : k < 3) (hd : Below w.heap.size w wd)
    (hg : wd.grownBy w2 ((A k).map (·.block))) (hz : OwnB w2 B A2 zs.length c2 zs) (hat : A2.map (·.block) = (A k).map (·.block) ∨ A2.map (·.block) = some wd.heap.size) :
    Play (w2.setCell ⟨ga, k, none⟩ (.slice A2 zs.length c2)) B gl ga n hs ys (upd xs k zs) (upd A k A2) (upd c k c2) ∧ Blk w2 ga 42 (aRow xs A c).toArray ∧ Only (fun b => (A k).map (·.block) = some b) w w2 := by
  have hp := h.below hd
  have ho : Only (fun b => (A k).map (·.block) = some b) wd w2 := Only.of_grown hg fun b e => e
  have ha2 := hp.a.only ho (own_far (hp.own k hk) hp.a (by decide))
  refine ⟨play_setA (hp.l.only ho (own_far (hp.own k hk) hp.l (by decide))) ha2 (fun j hj => (hp.h j hj).only ho ?_) hp.hne (fun j hj hjk => Own.only (hp.own j hj) ho fun b o e e2 => hp.ane k j hk hj (Ne.symm hjk) b e2 (by rw [e]; rfl)) hp.ane hp.hB hp.lB hp.aB hk hz fun j hj hjk b e => ?_, ha2, (Only.of_fresh hd).trans ho⟩
  · obtain ⟨ws, begun, rest, n', hh, _⟩ := hp.h j hj
    exact own_far (hp.own k hk) hh (by decide)
  · rcases hat with h1 | h1
    · rw [h1]
      exact hp.ane j k hj hk hjk b e
    · rw [h1]
      intro e2
      injection e2 with e2
      have := (Own.row (hp.own j hj) b e).2
      omega
/-- A new Hash in the place k. -/
theorem Play.setL {w : World} {B gl ga n m k g : Nat} {hs : Nat → Nat} {ys xs : Nat → List UInt8} {A : Nat → Option Addr} {c : Nat → Nat} {zs : List UInt8} (h : Play w B gl ga n hs ys xs A c) (h3 : k < 3) (hm : (k < n ∧ m = n) ∨ (k = n ∧ m = n + 1)) (hz : HashV w g zs) (hg : B ≤ g)
    (hne : ∀ j, j < n → g ≠ hs j) : Play (w.setCell ⟨gl, k, none⟩ (.pointer (some ⟨g, 0, none⟩))) B gl ga m (upd hs k g) (upd ys k zs) xs A c := by
  have ho : Only (fun b => b = gl) w (w.setCell ⟨gl, k, none⟩ (.pointer (some ⟨g, 0, none⟩))) := (Only.refl (fun b => b = gl) w).setCell (p := ⟨gl, k, none⟩) (.inl rfl) _
  have hla : ga ≠ gl := fun e => by
    have h1 := h.l
    have h2 := h.a
    unfold Blk at h1 h2
    rw [← e, h2] at h1
    injection h1 with h4
    injection h4 with _ h5 _
    exact absurd h5 (by decide)
  refine ⟨?_, h.a.only ho hla, fun j hj => ?_, fun i j hi hj hij => ?_, fun j hj => Own.only (h.own j hj) ho fun b o e e2 => own_far (h.own j hj) h.l (by decide) (by rw [e, e2]; rfl), h.ane, fun j hj => ?_, h.lB, h.aB⟩
  · have := h.l.setL k (.pointer (some ⟨g, 0, none⟩))
    rwa [lRow_set n m hs k g h3 hm] at this
  · by_cases hjk : j = k
    · subst hjk
      rw [upd_self, upd_self]
      exact hz.only ho (hz.ne h.l (by decide))
    · rw [upd_ne _ _ _ hjk, upd_ne _ _ _ hjk]
      exact (h.h j (by omega)).only ho ((h.h j (by omega)).ne h.l (by decide))
  · by_cases hik : i = k
    · subst hik
      rw [upd_self, upd_ne _ _ _ (Ne.symm hij)]
      exact hne j (by omega)
    · rw [upd_ne _ _ _ hik]
      by_cases hjk : j = k
      · subst hjk
        rw [upd_self]
        exact Ne.symm (hne i (by omega))
      · rw [upd_ne _ _ _ hjk]
        exact h.hne i j (by omega) (by omega) hij
  · by_cases hjk : j = k
    · subst hjk; rw [upd_self]; exact hg
    · rw [upd_ne _ _ _ hjk]; exact h.hB j (by omega)
end Go.Proofs.Ytmlkfkpffbbfaaa
