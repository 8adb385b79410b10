/- A row of programs that is appended to: plain. -/
import Derived.Test.YtadnjfoinmeloaaPrgG2
import Derived.Test.YtadnjfoinmeloaaPrgFL
import Derived.Test.YtadnjfoinmeloaaLendP
namespace Go.Proofs.Ytadnjfoinmeloaa
open Go.RowKit

theorem progT_info : (Try.prog.info? 25).map (fun i => (i.zero, i.size, i.bytes)) = some (some (.agg #[.int .i64 0, .slice none 0 0, .slice none 0 0]), 3, 56) := by kernel_rfl
theorem eProgT : Elem Try.prog 55 25 3 56 := elem_of Try.underlying55 progT_info rfl (by decide)
theorem prgCells_one (l : List PrgM) : ∀ u ∈ l.flatMap prgCells, u.oneCell' = true := by
  intro u hu
  obtain ⟨x, -, hx⟩ := List.mem_flatMap.1 hu
  simp only [prgCells, List.mem_cons, List.not_mem_nil, or_false] at hx
  rcases hx with rfl | rfl | rfl <;> rfl
theorem RowP.lt {w : World} {B : Nat} {l : List PrgM} (h : RowP w B l) : ∀ p ∈ l, (∀ b, p.AD.map (·.block) = some b → b < w.heap.size) ∧ ∀ f ∈ p.fs, ∀ b, f.A.map (·.block) = some b → b < w.heap.size := fun p hp =>
  ⟨fun b e => (Own.row (h.own p hp).data b e).2, fun f hf b e => ((h.own p hp).row.lt f hf b e).2⟩
theorem RowP.grow {w w' : World} {B B2 n c : Nat} {l : List PrgM} {L : Option Addr} {vs : List Value} (h : RowP w B l) (hL : Own w B2 25 3 L n c vs) (ho : Only (fun b => L.map (·.block) = some b) w w') : RowP w' B l :=
  ⟨fun p hp => ⟨Own.only (h.own p hp).data ho fun b o e e2 => own_ne (h.own p hp).data hL (by decide) b (by rw [e]; rfl) e2, Own.only (h.own p hp).funs ho fun b o e e2 => own_ne (h.own p hp).funs hL (by decide) b (by rw [e]; rfl) e2,
    (h.own p hp).row.only ho fun f hf b e e2 => own_ne ((h.own p hp).row.code f hf) hL (by decide) b e e2⟩, h.ok, h.dsole, h.csole⟩
/-- One more program, of the memory behind v. -/
theorem RowP.push2 {v w : World} {B B2 : Nat} {l : List PrgM} (h : RowP v B l) {x : PrgM} (hx : PrgMine w B2 x) (hok : PrgOk x.plain) (hB : B ≤ v.heap.size) (hv : v.heap.size ≤ B2) (hb : Below v.heap.size v w) : RowP w B (l ++ [x]) :=
  (h.below hb).push hx hok (Nat.le_trans hB hv) fun p hp => ⟨fun b e => Nat.lt_of_lt_of_le ((h.lt p hp).1 b e) hv, fun f hf b e => Nat.lt_of_lt_of_le ((h.lt p hp).2 f hf b e) hv⟩
/-- What the law holds while programs are handed out. -/
structure PSt (w0 w : World) (B : Nat) (P : Prg) (l : List PrgM) (L : Option Addr) (cL k : Nat) : Prop where
  len : l.length = 3 * k
  pl : ∀ q ∈ l, q.plain = P
  row : RowP w B l
  rowL : Own w B 25 3 L l.length cL (l.flatMap prgCells)
  bel : Below w0.heap.size w0 w
theorem PSt.nil (w : World) (P : Prg) : PSt w w w.heap.size P [] none 0 0 := ⟨rfl, (fun q h => by cases h), RowP.nil _ _, Own.nil _ _ _ _, Below.refl _ _⟩
theorem good_small {P : Prg} (h : checkL P = 0) : P.data.length ≤ 65536 ∧ P.fs.length ≤ 64 ∧ ∀ f ∈ P.fs, f.code.length ≤ 4096 := by
  obtain ⟨h1, h2⟩ := (checkL_ok P).1 h
  obtain ⟨a, b, c, d, e⟩ := badH_not h1
  refine ⟨by omega, by omega, fun f hf => ?_⟩
  have h3 := badF_not (h2 f hf).1
  omega
theorem PSt.grH {w0 w : World} {B : Nat} {P : Prg} {l : List PrgM} {L : Option Addr} {cL : Nat} (h : PSt w0 w B P l L cL 3) (hP : checkL P = 0) (hB : B = w0.heap.size) : GrH w B l L cL := by
  obtain ⟨h1, h2, h3⟩ := good_small hP
  have h4 := h.len
  have hz := h.bel.size
  refine ⟨h.row, h.rowL, by omega, fun p hp => ?_, by omega⟩
  have h5 := h.pl p hp
  rw [← h5] at h1 h2 h3
  change p.data.length ≤ 65536 at h1
  change (p.fs.map FunM.plain).length ≤ 64 at h2
  rw [List.length_map] at h2
  exact ⟨by omega, h2, fun f hf => h3 f.plain (List.mem_map.2 ⟨f, hf, rfl⟩)⟩
theorem lentP_sl {w : World} {g : Nat} {bs : List UInt8} (h : Blk w g 5 ((lentP bs).map bv).toArray) : Sl w ⟨some ⟨g, 0, none⟩, bs.length + 5, bs⟩ := by
  refine ⟨?_, fun e => by cases e⟩
  have h1 := (RV.of_blk h).cut 0 bs.length
  rw [List.drop_zero, ← List.map_take] at h1
  unfold lentP at h1
  rwa [List.take_append_of_le_length (Nat.le_refl _), List.take_length] at h1
theorem PrgAt.okI2 {w : World} {p : PrgM} (h : PrgAt w p) : ∀ f ∈ p.plain.fs, ∀ i ∈ f.code, InsOk i := by
  intro f hf i hi
  obtain ⟨g, hg, rfl⟩ := List.mem_map.1 hf
  exact (h.funs g hg).ok i hi
theorem GrH.below {w w' : World} {B cL : Nat} {l : List PrgM} {L : Option Addr} (h : GrH w B l L cL) (hb : Below w.heap.size w w') : GrH w' B l L cL :=
  ⟨h.row.below hb, Own.below h.rowL hb (Nat.le_refl _), h.many, h.small, Nat.le_trans h.hB hb.size⟩
theorem GrH.first {w : World} {B cL gL : Nat} {l : List PrgM} {p : PrgM} (h : GrH w B l (some ⟨gL, 0, none⟩) cL) (hp : l[0]? = some p) :
    gL < w.heap.size ∧ w.cell? ⟨gL, 0, none⟩ = some (.int .i64 p.mem) ∧ w.cell? ⟨gL, 1, none⟩ = some (.slice p.AD p.data.length p.cD) ∧ w.cell? ⟨gL, 2, none⟩ = some (.slice p.AF p.fs.length p.cF) := by
  have h1 := h.rowL
  obtain ⟨a0, b0⟩ := List.getElem?_eq_some_iff.1 (prgCells_get l 0 0 p hp (by omega))
  obtain ⟨a1, b1⟩ := List.getElem?_eq_some_iff.1 (prgCells_get l 0 1 p hp (by omega))
  obtain ⟨a2, b2⟩ := List.getElem?_eq_some_iff.1 (prgCells_get l 0 2 p hp (by omega))
  have c0 := ownG_at h1 _ a0
  have c1 := ownG_at h1 _ a1
  have c2 := ownG_at h1 _ a2
  rw [b0] at c0
  rw [b1] at c1
  rw [b2] at c2
  exact ⟨c0.2.2, c0.1, c1.1, c2.1⟩
end Go.Proofs.Ytadnjfoinmeloaa
