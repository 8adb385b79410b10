/- The law's grown of programs: the marks that are written, what stays as it lay: plain. -/
import Derived.Test.YtadnjfoinmeloaaPrgRow
import Derived.Test.YtadnjfoinmeloaaPrgMu
import Derived.Test.YtadnjfoinmeloaaInsJ
namespace Go.Proofs.Ytadnjfoinmeloaa
open Go.RowKit

theorem irow_info : (Try.prog.info? 48).map (fun i => (i.zero, i.size, i.bytes)) = some (some (.slice none 0 0), 1, 24) := by kernel_rfl
theorem eIRow : Elem Try.prog 93 48 1 24 := elem_of Try.underlying93 irow_info rfl (by decide)
theorem brow_info : (Try.prog.info? 22).map (fun i => (i.zero, i.size, i.bytes)) = some (some (.slice none 0 0), 1, 24) := by kernel_rfl
theorem eBRow : Elem Try.prog 94 22 1 24 := elem_of Try.underlying94 brow_info rfl (by decide)
def insMk (i n : Nat) : List Ins := (List.range n).map fun (k : Nat) => ⟨500 + (i : Int), (k : Int)⟩
def insTl (i n : Nat) : List Ins := (List.range n).map fun (k : Nat) => ⟨900 + (i : Int), (k : Int)⟩
def mkI (ps : List LG) (t : Nat) : List Value := (insMk t (nOf ps t)).flatMap insCells
def tlI (t m : Nat) : List Value := (insTl t m).flatMap insCells
theorem insMk_len (i n : Nat) : (insMk i n).length = n := by unfold insMk; rw [List.length_map, List.length_range]
theorem insTl_len (i n : Nat) : (insTl i n).length = n := by unfold insTl; rw [List.length_map, List.length_range]
theorem mkI_len (ps : List LG) (t : Nat) : (mkI ps t).length = nOf ps t * 2 := by unfold mkI; rw [insCells_len, insMk_len]
theorem mkI_get (ps : List LG) (t k : Nat) (hk : k < nOf ps t) : (mkI ps t)[k * 2]? = some (.int .i64 (500 + (t : Int))) ∧ (mkI ps t)[k * 2 + 1]? = some (.int .i64 (k : Int)) := by
  have hl : k < (insMk t (nOf ps t)).length := by rw [insMk_len]; exact hk
  have e : (insMk t (nOf ps t))[k] = ⟨500 + (t : Int), (k : Int)⟩ := by simp [insMk]
  have h0 := insCells_get _ k 0 hl (by omega)
  have h1 := insCells_get _ k 1 hl (by omega)
  rw [e] at h0 h1
  exact ⟨h0, h1⟩
theorem tlI_get (t m k : Nat) (hk : k < m) : (tlI t m)[k * 2]? = some (.int .i64 (900 + (t : Int))) ∧ (tlI t m)[k * 2 + 1]? = some (.int .i64 (k : Int)) := by
  have hl : k < (insTl t m).length := by rw [insTl_len]; exact hk
  have e : (insTl t m)[k] = ⟨900 + (t : Int), (k : Int)⟩ := by simp [insTl]
  have h0 := insCells_get _ k 0 hl (by omega)
  have h1 := insCells_get _ k 1 hl (by omega)
  rw [e] at h0 h1
  exact ⟨h0, h1⟩
theorem tlI_next (t m : Nat) : tlI t m ++ [.int .i64 (900 + (t : Int)), .int .i64 (m : Int)] = tlI t (m + 1) := by
  unfold tlI insTl
  rw [List.range_succ, List.map_append, List.flatMap_append]
  rfl
def mkE (i k : Nat) : Int := ((i : Int) * 37 + (k : Int)) % 256
def tlE (i k : Nat) : Int := (255 - (i : Int) * 37 - (k : Int)) % 256
def mkB (ps : List LG) (t : Nat) : List Value := (List.range (nOf ps t)).map fun (k : Nat) => .int .u8 (mkE t k)
def tlB (t m : Nat) : List Value := (List.range m).map fun (k : Nat) => .int .u8 (tlE t k)
theorem mkB_len (ps : List LG) (t : Nat) : (mkB ps t).length = nOf ps t * 1 := by unfold mkB; rw [List.length_map, List.length_range, Nat.mul_one]
theorem mkB_get (ps : List LG) (t k : Nat) (hk : k < nOf ps t) : (mkB ps t)[k]? = some (.int .u8 (mkE t k)) := by
  unfold mkB; rw [List.getElem?_map, List.getElem?_range hk]; rfl
theorem tlB_get (t m k : Nat) (hk : k < m) : (tlB t m)[k]? = some (.int .u8 (tlE t k)) := by
  unfold tlB; rw [List.getElem?_map, List.getElem?_range hk]; rfl
theorem tlB_next (t m : Nat) : tlB t m ++ [.int .u8 (tlE t m)] = tlB t (m + 1) := by
  unfold tlB
  rw [List.range_succ, List.map_append]
  rfl
/-- The blocks that grown writes to. -/
def SpG (l : List PrgM) (b : Nat) : Prop := (∃ p ∈ dataLs l, p.A.map (·.block) = some b) ∨ ∃ p ∈ codeLs l, p.A.map (·.block) = some b
def SpD (l : List PrgM) (b : Nat) : Prop := ∃ p ∈ dataLs l, p.A.map (·.block) = some b
theorem SpD.g {l : List PrgM} {w wr : World} (h : Only (SpD l) w wr) : Only (SpG l) w wr := h.mono fun _ _ e => .inl e
def lgF (f : FunM) : LG := ⟨f.A, f.code.length, f.c⟩
def vD (l : List PrgM) (t : Nat) : List Value := ((l[t]?).map fun p => p.data.map bv).getD []
def vC (l : List PrgM) (t : Nat) : List Value := (((codeFs l)[t]?).map fun f => f.code.flatMap insCells).getD []
structure GrH (w : World) (B : Nat) (l : List PrgM) (L : Option Addr) (cL : Nat) : Prop where
  row : RowP w B l
  rowL : Own w B 25 3 L l.length cL (l.flatMap prgCells)
  many : l.length ≤ 9
  small : ∀ p ∈ l, p.data.length ≤ 2000000 ∧ p.fs.length ≤ 64 ∧ ∀ f ∈ p.fs, f.code.length ≤ 4096
  hB : B ≤ w.heap.size
theorem GrH.sp {w : World} {B cL : Nat} {l : List PrgM} {L : Option Addr} (h : GrH w B l L cL) (b : Nat) (hb : SpG l b) : B ≤ b ∧ b < w.heap.size := by
  rcases hb with ⟨p, hp, e⟩ | ⟨p, hp, e⟩
  · obtain ⟨q, hq, rfl⟩ := List.mem_map.1 hp
    exact Own.row (h.row.own q hq).data b e
  · obtain ⟨f, hf, rfl⟩ := List.mem_map.1 hp
    obtain ⟨q, hq, hf2⟩ := codeFs_mem hf
    exact (h.row.own q hq).row.lt f hf2 b e
theorem GrH.far {w : World} {B cL : Nat} {l : List PrgM} {L : Option Addr} (h : GrH w B l L cL) (b : Nat) (hb : SpG l b) {w2 : World} {base size n c : Nat} {e : TypeId} {A : Option Addr} {vs : List Value}
    (ho : Own w2 base e size A n c vs) (h2 : w2 = w) (h1 : e ≠ 5) (h3 : e ≠ 52) : A.map (·.block) ≠ some b := by
  subst h2
  rcases hb with ⟨p, hp, e2⟩ | ⟨p, hp, e2⟩
  · obtain ⟨q, hq, rfl⟩ := List.mem_map.1 hp
    intro e3
    exact own_ne ho (h.row.own q hq).data h1 b e3 e2
  · obtain ⟨f, hf, rfl⟩ := List.mem_map.1 hp
    obtain ⟨q, hq, hf2⟩ := codeFs_mem hf
    intro e3
    exact own_ne ho ((h.row.own q hq).row.code f hf2) h3 b e3 e2
/-- The cells of a program in the row stay. -/
theorem GrH.prg {w wr : World} {B cL : Nat} {l : List PrgM} {L : Option Addr} (h : GrH w B l L cL) (ho : Only (SpG l) w wr) (k : Nat) (p : PrgM) (hp : l[k]? = some p) :
    ∀ gL, L = some ⟨gL, 0, none⟩ → gL < wr.heap.size ∧ wr.cell? ⟨gL, k * 3 + 1, none⟩ = some (.slice p.AD p.data.length p.cD) ∧ wr.cell? ⟨gL, k * 3 + 2, none⟩ = some (.slice p.AF p.fs.length p.cF) := by
  rintro gL rfl
  have hz := ho.size
  have h1 := Own.only h.rowL ho fun b o e e2 => h.far b e2 h.rowL rfl (by decide) (by decide) (by rw [e]; rfl)
  have hl := prgCells_len l
  have hkl := (List.getElem?_eq_some_iff.1 hp).1
  have g1 := prgCells_get l k 1 p hp (by omega)
  have g2 := prgCells_get l k 2 p hp (by omega)
  obtain ⟨a1, b1⟩ := List.getElem?_eq_some_iff.1 g1
  obtain ⟨a2, b2⟩ := List.getElem?_eq_some_iff.1 g2
  have c1 := (ownG_at h1 _ a1)
  have c2 := (ownG_at h1 _ a2).1
  rw [b1] at c1
  rw [b2] at c2
  exact ⟨c1.2.2, c1.1, c2⟩
theorem GrH.at_ {w : World} {B cL : Nat} {l : List PrgM} {L : Option Addr} (h : GrH w B l L cL) (hn : 0 < l.length) : ∃ gL, L = some ⟨gL, 0, none⟩ ∧ gL < w.heap.size := by
  obtain ⟨g, h1, -, h2⟩ := ownG_some h.rowL hn
  exact ⟨g, h1, h2⟩
theorem GrH.fn {w wr : World} {B cL : Nat} {l : List PrgM} {L : Option Addr} (h : GrH w B l L cL) (ho : Only (SpG l) w wr) (p : PrgM) (hp : p ∈ l) (j : Nat) (f : FunM) (hf : p.fs[j]? = some f) :
    ∃ gF, p.AF = some ⟨gF, 0, none⟩ ∧ gF < wr.heap.size ∧ wr.cell? ⟨gF, j * 4 + 3, none⟩ = some (.slice f.A f.code.length f.c) := by
  have h0 := (h.row.own p hp).funs
  have hj := (List.getElem?_eq_some_iff.1 hf).1
  obtain ⟨gF, e1, -, -⟩ := ownG_some h0 (by omega)
  have h1 := Own.only h0 ho fun b o e e2 => h.far b e2 h0 rfl (by decide) (by decide) (by rw [e]; rfl)
  rw [e1] at h1
  have g1 := funCells_get p.fs j 3 hj (by omega)
  rw [(List.getElem?_eq_some_iff.1 hf).2] at g1
  obtain ⟨a1, b1⟩ := List.getElem?_eq_some_iff.1 g1
  have c1 := (ownG_at h1 _ a1)
  rw [b1] at c1
  exact ⟨gF, e1, c1.2.2, c1.1⟩
theorem dataLs_len (l : List PrgM) : (dataLs l).length = l.length := List.length_map _
theorem dataLs_get {l : List PrgM} {k : Nat} {p : PrgM} (hp : l[k]? = some p) : (dataLs l)[k]? = some ⟨p.AD, p.data.length, p.cD⟩ := by unfold dataLs; rw [List.getElem?_map, hp]; rfl
theorem dataLs_inv {l : List PrgM} {k : Nat} {q : LG} (h : (dataLs l)[k]? = some q) : ∃ p, l[k]? = some p ∧ q = ⟨p.AD, p.data.length, p.cD⟩ := by
  unfold dataLs at h
  rw [List.getElem?_map] at h
  cases hp : l[k]? with
  | none => rw [hp] at h; cases h
  | some p => rw [hp] at h; injection h with h; exact ⟨p, rfl, h.symm⟩
theorem codeLs_inv {l : List PrgM} {k : Nat} {q : LG} (h : (codeLs l)[k]? = some q) : ∃ f, (codeFs l)[k]? = some f ∧ q = lgF f := by
  unfold codeLs at h
  rw [List.getElem?_map] at h
  cases hp : (codeFs l)[k]? with
  | none => rw [hp] at h; cases h
  | some p => rw [hp] at h; injection h with h; exact ⟨p, rfl, h.symm⟩
theorem GrH.ownD {w : World} {B cL : Nat} {l : List PrgM} {L : Option Addr} (h : GrH w B l L cL) (t : Nat) (q : LG) (hq : (dataLs l)[t]? = some q) : Own w B 5 1 q.A q.n q.c (vD l t) := by
  obtain ⟨p, hp, rfl⟩ := dataLs_inv hq
  have := (h.row.own p (List.mem_of_getElem? hp)).data
  unfold vD
  rw [hp]
  exact this
theorem GrH.ownC {w : World} {B cL : Nat} {l : List PrgM} {L : Option Addr} (h : GrH w B l L cL) (t : Nat) (q : LG) (hq : (codeLs l)[t]? = some q) : Own w B 52 2 q.A q.n q.c (vC l t) := by
  obtain ⟨f, hf, rfl⟩ := codeLs_inv hq
  obtain ⟨p, hp, hf2⟩ := codeFs_mem (List.mem_of_getElem? hf)
  have := (h.row.own p hp).row.code f hf2
  unfold vC
  rw [hf]
  exact this
theorem GrH.soleD {w : World} {B cL : Nat} {l : List PrgM} {L : Option Addr} (h : GrH w B l L cL) (i j : Nat) (p r : LG) (hij : i ≠ j) (hp : (dataLs l)[i]? = some p) (hr : (dataLs l)[j]? = some r) (b : Nat) (e : p.A.map (·.block) = some b) : r.A.map (·.block) ≠ some b := by
  obtain ⟨p', hp', rfl⟩ := dataLs_inv hp
  obtain ⟨r', hr', rfl⟩ := dataLs_inv hr
  exact h.row.dsole i j p' r' hp' hr' hij b e
theorem GrH.soleC {w : World} {B cL : Nat} {l : List PrgM} {L : Option Addr} (h : GrH w B l L cL) (i j : Nat) (p r : LG) (hij : i ≠ j) (hp : (codeLs l)[i]? = some p) (hr : (codeLs l)[j]? = some r) (b : Nat) (e : p.A.map (·.block) = some b) : r.A.map (·.block) ≠ some b := by
  obtain ⟨p', hp', rfl⟩ := codeLs_inv hp
  obtain ⟨r', hr', rfl⟩ := codeLs_inv hr
  exact h.row.csole i j p' r' hp' hr' hij b e
theorem GrH.smallD {w : World} {B cL : Nat} {l : List PrgM} {L : Option Addr} (h : GrH w B l L cL) (t : Nat) (q : LG) (hq : (dataLs l)[t]? = some q) : q.n ≤ 2000000 := by
  obtain ⟨p, hp, rfl⟩ := dataLs_inv hq
  exact (h.small p (List.mem_of_getElem? hp)).1
theorem GrH.smallC {w : World} {B cL : Nat} {l : List PrgM} {L : Option Addr} (h : GrH w B l L cL) (t : Nat) (q : LG) (hq : (codeLs l)[t]? = some q) : q.n ≤ 4096 := by
  obtain ⟨f, hf, rfl⟩ := codeLs_inv hq
  obtain ⟨p, hp, hf2⟩ := codeFs_mem (List.mem_of_getElem? hf)
  exact (h.small p hp).2.2 f hf2
theorem codeFs_len (l : List PrgM) : (codeFs l).length ≤ l.length * 6 := by
  induction l with
  | nil => exact Nat.le_refl _
  | cons x l ih => unfold codeFs at ih ⊢; rw [List.flatMap_cons, List.length_append, List.length_take, List.length_cons]; omega
theorem codeLs_len (l : List PrgM) : (codeLs l).length = (codeFs l).length := List.length_map _
theorem dataLs_take {l : List PrgM} {k : Nat} {p : PrgM} (hp : l[k]? = some p) : dataLs (l.take (k + 1)) = dataLs (l.take k) ++ [⟨p.AD, p.data.length, p.cD⟩] := by
  rw [List.take_add_one, hp]
  unfold dataLs
  rw [List.map_append]
  rfl
theorem codeLs_take {l : List PrgM} {k : Nat} {p : PrgM} (hp : l[k]? = some p) : codeLs (l.take (k + 1)) = codeLs (l.take k) ++ (p.fs.take 6).map lgF := by
  rw [List.take_add_one, hp]
  show codeLs (l.take k ++ [p]) = _
  unfold codeLs
  rw [codeFs_append, List.map_append]
  rfl
theorem lgF_next {fs : List FunM} {j : Nat} {f : FunM} (hf : fs[j]? = some f) : (fs.take (j + 1)).map lgF = (fs.take j).map lgF ++ [lgF f] := by
  rw [List.take_add_one, hf, List.map_append]
  rfl
theorem lgF_all {fs : List FunM} {j : Nat} (h : ¬ (j < fs.length ∧ j < 6)) (hj : j ≤ 6) : (fs.take j) = fs.take 6 := by
  by_cases h6 : j = 6
  · rw [h6]
  · rw [List.take_of_length_le (by omega : fs.length ≤ j), List.take_of_length_le (by omega)]
/-- A row of lists, as a slice of slices holds it. -/
def RowV (wr : World) (base : Nat) (rowT : TypeId) (ps : List LG) (v : Value) : Prop := ∃ A n c, v = .slice A n c ∧ n = ps.length ∧ Own wr base rowT 1 A n c (ps.map LG.val)
theorem RowV.nil (wr : World) (base : Nat) (rowT : TypeId) : RowV wr base rowT [] (.slice none 0 0) := ⟨none, 0, 0, rfl, rfl, Own.nil _ _ _ _⟩
theorem mkB_fit {w : World} {B cL : Nat} {l : List PrgM} {L : Option Addr} (h : GrH w B l L cL) (t : Nat) (q : LG) (hq : (dataLs l)[t]? = some q) : (mkB (dataLs l) t).length = (vD l t).length := by
  rw [mkB_len, nOf_eq hq, (h.ownD t q hq).1]
theorem mkI_fit {w : World} {B cL : Nat} {l : List PrgM} {L : Option Addr} (h : GrH w B l L cL) (t : Nat) (q : LG) (hq : (codeLs l)[t]? = some q) : (mkI (codeLs l) t).length = (vC l t).length := by
  rw [mkI_len, nOf_eq hq, (h.ownC t q hq).1]
theorem FullG.first {w : World} {base : Nat} {e : TypeId} {sz : Nat} {ps : List LG} {mk vs : Nat → List Value} (h : ∀ t p, ps[t]? = some p → Own w base e sz p.A p.n p.c (vs t)) : FullG w base e sz ps mk vs 0 0 :=
  ⟨fun t p hp => by
    rw [if_neg (Nat.not_lt_zero _)]
    split
    · exact h t p hp
    · exact h t p hp⟩
theorem FullG.last {w : World} {base : Nat} {e : TypeId} {sz n : Nat} {ps : List LG} {mk vs : Nat → List Value} (h : FullG w base e sz ps mk vs n 0) (hn : n = ps.length) : ∀ t p, ps[t]? = some p → Own w base e sz p.A p.n p.c (mk t) := fun t p hp => by
  have h1 := h.own t p hp
  rwa [if_pos (by have := (List.getElem?_eq_some_iff.1 hp).1; omega)] at h1
end Go.Proofs.Ytadnjfoinmeloaa
