/- The law's Spoil: a program's lists are written over. -/
import Derived.Test.YtadnjfoinmeloaaPrgTl
import Derived.Test.YtadnjfoinmeloaaGenL
namespace Go.Proofs.Ytadnjfoinmeloaa
open Go.RowKit

theorem bits_x85 (a : UInt8) : ∃ u : UInt8, Value.int .u8 (bits .xor .u8 (a.toNat : Int) 85) = bv u := by
  have h : bits .xor .u8 (a.toNat : Int) 85 = IntKind.u8.wrap (((BitVec.ofInt 8 (a.toNat : Int)) ^^^ (BitVec.ofInt 8 85)).toNat : Int) := rfl
  rw [h, IntKind.wrap_u8]
  refine ⟨UInt8.ofNat ((((BitVec.ofInt 8 (a.toNat : Int)) ^^^ (BitVec.ofInt 8 85)).toNat : Int) % 256).toNat, ?_⟩
  unfold bv
  congr 1
  rw [UInt8.toNat_ofNat']
  omega
/-- While functions are written over: those from i on lie as they lay. -/
structure SpR (w : World) (base : Nat) (AF : Option Addr) (nf cF : Nat) (vs : List Value) (fs : List FunM) (i : Nat) : Prop where
  own : Own w base 50 4 AF nf cF vs
  rest : ∀ k f, i ≤ k → fs[k]? = some f → vs[k * 4 + 3]? = some (.slice f.A f.code.length f.c) ∧ Own w base 52 2 f.A f.code.length f.c (f.code.flatMap insCells)
structure SpC (w : World) (base : Nat) (AF : Option Addr) (nf cF : Nat) (vs : List Value) (fs : List FunM) (i : Nat) (f : FunM) (nc : Nat) (cs : List Value) : Prop where
  own : Own w base 50 4 AF nf cF vs
  hd : vs[i * 4 + 3]? = some (.slice f.A nc f.c)
  code : Own w base 52 2 f.A nc f.c cs
  rest : ∀ k g, i < k → fs[k]? = some g → vs[k * 4 + 3]? = some (.slice g.A g.code.length g.c) ∧ Own w base 52 2 g.A g.code.length g.c (g.code.flatMap insCells)
theorem SpC.put {w : World} {base nf cF i nc g : Nat} {AF : Option Addr} {vs cs : List Value} {fs : List FunM} {f : FunM} (h : SpC w base AF nf cF vs fs i f nc cs) (ha : ApartF fs) (hf : fs[i]? = some f) (hA : f.A = some ⟨g, 0, none⟩) (j : Nat) (u : Value) :
    SpC (w.setCell ⟨g, j, none⟩ u) base AF nf cF vs fs i f nc (cs.set j u) := by
  have hO : Only (fun b => b = g) w (w.setCell ⟨g, j, none⟩ u) := (Only.refl (fun b => b = g) w).setCell (p := ⟨g, j, none⟩) (.inl rfl) u
  have hco := h.code
  refine ⟨Own.only h.own hO fun b o e e2 => own_ne h.own hco (by decide) b (by rw [e]; rfl) (by rw [hA, e2]; rfl), h.hd, ?_, fun k y hk hy => ⟨(h.rest k y hk hy).1, Own.only (h.rest k y hk hy).2 hO fun b o e e2 => ?_⟩⟩
  · rw [hA] at hco ⊢
    exact ownG_set hco j u
  · exact ha i k f y hf hy (by omega) b (by rw [hA, e2]; rfl) (by rw [e]; rfl)
theorem SpC.next {w : World} {base nf cF i nc gF : Nat} {vs cs : List Value} {fs : List FunM} {f : FunM} (h : SpC w base (some ⟨gF, 0, none⟩) nf cF vs fs i f nc cs) (u0 u1 u2 u3 : Value) :
    SpR ((((w.setCell ⟨gF, i * 4, none⟩ u0).setCell ⟨gF, i * 4 + 1, none⟩ u1).setCell ⟨gF, i * 4 + 2, none⟩ u2).setCell ⟨gF, i * 4 + 3, none⟩ u3) base (some ⟨gF, 0, none⟩) nf cF ((((vs.set (i * 4) u0).set (i * 4 + 1) u1).set (i * 4 + 2) u2).set (i * 4 + 3) u3) fs (i + 1) := by
  have hO : Only (fun b => b = gF) w ((((w.setCell ⟨gF, i * 4, none⟩ u0).setCell ⟨gF, i * 4 + 1, none⟩ u1).setCell ⟨gF, i * 4 + 2, none⟩ u2).setCell ⟨gF, i * 4 + 3, none⟩ u3) :=
    ((((Only.refl (fun b => b = gF) w).setCell (p := ⟨gF, i * 4, none⟩) (.inl rfl) u0).setCell (p := ⟨gF, i * 4 + 1, none⟩) (.inl rfl) u1).setCell (p := ⟨gF, i * 4 + 2, none⟩) (.inl rfl) u2).setCell (p := ⟨gF, i * 4 + 3, none⟩) (.inl rfl) u3
  refine ⟨ownG_set (ownG_set (ownG_set (ownG_set h.own _ u0) _ u1) _ u2) _ u3, fun k y hk hy => ?_⟩
  obtain ⟨h1, h2⟩ := h.rest k y (by omega) hy
  refine ⟨?_, Own.only h2 hO fun b o e e2 => own_ne h2 h.own (by decide) b (by rw [e]; rfl) (by rw [e2]; rfl)⟩
  rw [List.getElem?_set_ne (by omega), List.getElem?_set_ne (by omega), List.getElem?_set_ne (by omega), List.getElem?_set_ne (by omega)]
  exact h1
theorem Only.below' {w w1 w2 : World} {base top gx : Nat} (h : Only (fun b => base ≤ b ∧ b < top) w1 w2) (hb : Below w.heap.size w w1) (_hg : gx = w.heap.size) (_ht : top ≤ gx) : Only (fun b => base ≤ b ∧ b < top) w w2 := (Only.of_fresh hb).trans h
set_option maxRecDepth 100000 in
set_option maxHeartbeats 4000000 in
theorem spoil_any (q : PrgM) (w : World) (base top : Nat) (h : PrgMine w base q) (hok : PrgOk q.plain) (hd : ∀ b, q.AD.map (·.block) = some b → b < top) (hf : ∀ b, q.AF.map (·.block) = some b → b < top) (hc : ∀ f ∈ q.fs, ∀ b, f.A.map (·.block) = some b → b < top) (htop : top ≤ w.heap.size) :
    Calls Try.prog 28 #[q.val] w fun e w' => e = .returned (.tuple #[]) ∧ Only (fun b => base ≤ b ∧ b < top) w w' := by
  obtain ⟨mem, AD, cD, data, AF, cF, fs⟩ := q
  obtain ⟨nd, hnd⟩ : ∃ n, n = data.length := ⟨_, rfl⟩
  obtain ⟨nf, hnf⟩ : ∃ n, n = fs.length := ⟨_, rfl⟩
  have hdl : nd ≤ 140737488351232 := by rw [hnd]; exact hok.dlen
  have hfl : nf ≤ 2932031007402 := by have h1 := hok.flen; change (fs.map FunM.plain).length ≤ _ at h1; rw [List.length_map] at h1; omega
  have hcl : ∀ f ∈ fs, f.code.length ≤ 8796093021952 := fun f hf => (hok.fs f.plain (List.mem_map.2 ⟨f, hf, rfl⟩)).2.1
  have H := Lib.hid h
  have Hc := Lib.hid hc
  have Hd := Lib.hid hd
  have Hf := Lib.hid hf
  have Hcl := Lib.hid hcl
  show Calls Try.prog _ #[.agg #[.int .i64 mem, .slice AD data.length cD, .slice AF fs.length cF]] w _
  rw [← hnd, ← hnf]
  have Hnd := Lib.hid hnd
  have Hnf := Lib.hid hnf
  clear h hok hd hf hc hcl hnd hnf
  go_enter Try.func28, Try.ntmps28
  go_wp2_with fail
  obtain ⟨w1, hw1⟩ : ∃ w1, w1 = w.alloc (.cells #[.int .i64 mem, .slice AD nd cD, .slice AF nf cF] 25) := ⟨_, rfl⟩
  rw [← hw1]
  have hb1 : Below w.heap.size w w1 := by rw [hw1]; exact (Below.refl _ _).alloc (Nat.le_refl _) _
  have hX1 : Blk w1 w.heap.size 25 #[.int .i64 mem, .slice AD nd cD, .slice AF nf cF] := by rw [hw1]; exact Blk.new _ _ _
  obtain ⟨gx, hgx⟩ : ∃ g, g = w.heap.size := ⟨_, rfl⟩
  rw [← hgx] at hX1 htop ⊢
  have hz1 := hX1.lt
  have HX1 := Lib.hid hX1
  have Hb1 := Lib.hid hb1
  have Hgx := Lib.hid hgx
  have HD1 := Lib.hid (show OwnB w1 base AD data.length cD data from Own.below H.out.data hb1 (Nat.le_refl _))
  have HF1 := Lib.hid (show Own w1 base 50 4 AF fs.length cF (fs.flatMap funCells) from Own.below H.out.funs hb1 (Nat.le_refl _))
  have HR1 := Lib.hid (show MineR w1 base fs from H.out.row.below hb1)
  clear hw1 hb1 hX1 hgx
  go_loopw [2] (fun v wr => ∃ (j : Nat) (ds : List UInt8), j ≤ nd ∧ v = .int .i64 j ∧ ds.length = nd ∧ OwnB wr base AD nd cD ds ∧ Only (fun b => AD.map (·.block) = some b) w1 wr) (fun v _ => nd - (intOf v).toNat)
  case atStart => exact ⟨0, data, Nat.zero_le _, rfl, Hnd.out.symm, by rw [Hnd.out]; exact HD1.out, Only.refl _ _⟩
  case round =>
    rename World => w2
    obtain ⟨j, ds, hj, rfl, hds, hD, hO⟩ := hrel
    have hX2 := HX1.out.only hO fun e => by have := Hd.out _ e; omega
    have x1 : w2.cell? ⟨gx, 1, none⟩ = some (.slice AD nd cD) := hX2.cell 1
    have x2 : w2.cell? ⟨gx, 2, none⟩ = some (.slice AF nf cF) := hX2.cell 2
    have hxl := hX2.lt
    have Hds := Lib.hid hds
    by_cases hjn : j < nd
    · have g1 : (j : Int) < (nd : Int) := by omega
      have hD2 : Own w2 base 5 1 AD nd cD (ds.map bv) := hD
      obtain ⟨g, hA, hg1, hg2⟩ := ownG_some hD2 (by omega)
      subst hA
      obtain ⟨c0, f0, -⟩ := ownG_at hD2 j (by rw [List.length_map]; omega)
      rw [List.getElem_map] at c0
      obtain ⟨a, ha⟩ : ∃ a, a = ds[j]'(by omega) := ⟨_, rfl⟩
      rw [← ha] at c0
      obtain ⟨u, hu⟩ := bits_x85 a
      have HD2 := Lib.hid (show OwnB (w2.setCell ⟨g, j, none⟩ (.int .u8 (bits .xor .u8 (a.toNat : Int) 85))) base (some ⟨g, 0, none⟩) nd cD (ds.set j u) from by
        show Own _ _ _ _ _ _ _ ((ds.set j u).map bv)
        rw [List.map_set, hu]
        exact ownG_set hD2 j (bv u))
      have HO2 := Lib.hid (hO.setCell (p := ⟨g, j, none⟩) (.inl rfl) (.int .u8 (bits .xor .u8 (a.toNat : Int) 85)))
      unfold bv at c0
      have gg : g ≠ gx := fun e => by have := Hd.out g rfl; omega
      clear hD hD2 hO hX2 ha hu HX1 hds
      go_wp2_with fail
      go_region
      all_goals
        go_wp2_with fail
        exact ⟨⟨j + 1, ds.set j u, by omega, by go_num, by rw [List.length_set]; exact Hds.out, Own.below HD2.out (below_drewN (Below.refl _ _) 1) (Nat.le_refl _), HO2.out.drew⟩, by simp [intOf]; omega⟩
    · obtain rfl : j = nd := by omega
      have HF2 := Lib.hid (Own.only HF1.out hO fun b o e e2 => own_ne HF1.out HD1.out (by decide) b (by rw [e]; rfl) e2)
      have HR2 := Lib.hid (HR1.out.only hO fun f hf b e e2 => own_ne (HR1.out.code f hf) HD1.out (by decide) b e e2)
      have HX2 := Lib.hid hX2
      have HO2 := Lib.hid (show Only (fun b => base ≤ b ∧ b < top) w1 w2 from hO.mono fun b _ e => ⟨(Own.row HD1.out b e).1, Hd.out b e⟩)
      clear hO hX2 hD HX1
      go_wp2_with fail
      go_loopw [3] (fun v wr => ∃ (i : Nat) (vs : List Value), i ≤ nf ∧ v = .int .i64 i ∧ SpR wr base AF nf cF vs fs i ∧ Blk wr gx 25 #[.int .i64 mem, .slice AD j cD, .slice AF nf cF] ∧ Only (fun b => base ≤ b ∧ b < top) w1 wr) (fun v _ => nf - (intOf v).toNat)
      case atStart =>
        refine ⟨0, fs.flatMap funCells, Nat.zero_le _, rfl, ⟨by rw [Hnf.out]; exact HF2.out, fun k f _ hf => ⟨?_, HR2.out.code f (List.mem_of_getElem? hf)⟩⟩, HX2.out, HO2.out⟩
        obtain ⟨hk, e⟩ := List.getElem?_eq_some_iff.1 hf
        rw [funCells_get fs k 3 hk (by omega), e]
        rfl
      case round =>
        rename World => w3
        clear HX2 HO2 HF2 HR2
        obtain ⟨i, vs, hi, rfl, hR, hX, hO⟩ := hrel
        have y2 : w3.cell? ⟨gx, 2, none⟩ = some (.slice AF nf cF) := hX.cell 2
        have hxl3 := hX.lt
        by_cases hin : i < nf
        · have g1 : (i : Int) < (nf : Int) := by omega
          obtain ⟨f, hf⟩ : ∃ f, fs[i]? = some f := ⟨_, List.getElem?_eq_getElem (by have := Hnf.out; omega)⟩
          have hvl := hR.own.1
          obtain ⟨gF, hAF, -, hgF⟩ := ownG_some hR.own (by omega)
          subst hAF
          obtain ⟨n1, n2⟩ := hR.rest i f (Nat.le_refl _) hf
          have hnc := Hcl.out f (List.mem_of_getElem? hf)
          obtain ⟨nc, hnc0⟩ : ∃ n, n = f.code.length := ⟨_, rfl⟩
          rw [← hnc0] at hnc
          have Hn := Lib.hid (show SpC w3 base (some ⟨gF, 0, none⟩) nf cF vs fs i f nc (f.code.flatMap insCells) from ⟨hR.own, by rw [hnc0]; exact n1, by rw [hnc0]; exact n2, fun k g hk hg => hR.rest k g (by omega) hg⟩)
          have HX3 := Lib.hid hX
          have HO3 := Lib.hid hO
          have Hff := Lib.hid hf
          have Hnc := Lib.hid hnc0
          clear hR hX hO hf n1 n2 hvl hnc0
          go_wp2_with fail
          go_loopw [4] (fun v wr => ∃ (k : Nat) (cs : List Value), k ≤ nc ∧ v = .int .i64 k ∧ SpC wr base (some ⟨gF, 0, none⟩) nf cF vs fs i f nc cs ∧ Blk wr gx 25 #[.int .i64 mem, .slice AD j cD, .slice (some ⟨gF, 0, none⟩) nf cF] ∧ Only (fun b => base ≤ b ∧ b < top) w1 wr) (fun v _ => nc - (intOf v).toNat)
          case atStart => exact ⟨0, _, Nat.zero_le _, rfl, Hn.out, HX3.out, HO3.out⟩
          case round =>
            rename World => w4
            clear Hn HX3 HO3
            obtain ⟨k, cs, hk, rfl, hC, hX, hO⟩ := hrel
            have z2 : w4.cell? ⟨gx, 2, none⟩ = some (.slice (some ⟨gF, 0, none⟩) nf cF) := hX.cell 2
            have hxl4 := hX.lt
            have hvl := hC.own.1
            obtain ⟨a3, b3⟩ := List.getElem?_eq_some_iff.1 hC.hd
            obtain ⟨k3, -, hgF4⟩ := ownG_at hC.own (i * 4 + 3) a3
            rw [b3] at k3
            by_cases hkn : k < nc
            · have g2 : (k : Int) < (nc : Int) := by omega
              have hco := hC.code
              obtain ⟨g, hA, -, -⟩ := ownG_some hco (by omega)
              rw [hA] at hco k3
              have hcl := hco.1
              obtain ⟨c0, f0, -⟩ := ownG_at hco (k * 2) (by omega)
              obtain ⟨c1, f1, -⟩ := ownG_at hco (k * 2 + 1) (by omega)
              generalize cs[k * 2] = q0 at *
              generalize cs[k * 2 + 1] = q1 at *
              have gg : g ≠ gx := fun e => by have := Hc.out f (List.mem_of_getElem? Hff.out) g (by rw [hA]; rfl); omega
              have gg2 : g ≠ gF := fun e => ownG_ne hC.own hC.code (by decide) gF rfl (by rw [hA, e]; rfl)
              have HC2 := Lib.hid ((hC.put H.out.row.apart Hff.out hA (k * 2) (.int .i64 (-5))).put H.out.row.apart Hff.out hA (k * 2 + 1) (.int .i64 (k : Int)))
              have HO4 := Lib.hid ((hO.setCell (p := ⟨g, k * 2, none⟩) (.inl ⟨(Own.row hC.code g (by rw [hA]; rfl)).1, Hc.out f (List.mem_of_getElem? Hff.out) g (by rw [hA]; rfl)⟩) (.int .i64 (-5))).setCell (p := ⟨g, k * 2 + 1, none⟩) (.inl ⟨(Own.row hC.code g (by rw [hA]; rfl)).1, Hc.out f (List.mem_of_getElem? Hff.out) g (by rw [hA]; rfl)⟩) (.int .i64 (k : Int)))
              have HX4 := Lib.hid (hX.only (((Only.refl (fun b => b = g) w4).setCell (p := ⟨g, k * 2, none⟩) (.inl rfl) (.int .i64 (-5))).setCell (p := ⟨g, k * 2 + 1, none⟩) (.inl rfl) (.int .i64 (k : Int))) fun e => gg e.symm)
              clear hC hX hO hco hcl hvl hA a3 b3
              go_wp2_with fail
              exact ⟨⟨k + 1, _, by omega, by go_num, HC2.out, HX4.out, HO4.out⟩, by simp [intOf]; omega⟩
            · obtain rfl : k = nc := by omega
              obtain ⟨d0, e0, -⟩ := ownG_at hC.own (i * 4) (by omega)
              obtain ⟨d1, e1, -⟩ := ownG_at hC.own (i * 4 + 1) (by omega)
              obtain ⟨d2, e2, -⟩ := ownG_at hC.own (i * 4 + 2) (by omega)
              obtain ⟨d3, e3, -⟩ := ownG_at hC.own (i * 4 + 3) (by omega)
              clear d3
              generalize vs[i * 4] = q0 at *
              generalize vs[i * 4 + 1] = q1 at *
              generalize vs[i * 4 + 2] = q2 at *
              have gg : gF ≠ gx := fun e => by have := Hf.out gF rfl; omega
              have hgS : base ≤ gF ∧ gF < top := ⟨(Own.row hC.own gF rfl).1, Hf.out gF rfl⟩
              have HR4 := Lib.hid (hC.next (.int .i64 (-4)) (.int .i64 0) (.int .i64 0) (.slice none 0 0))
              have HO4 := Lib.hid ((((hO.setCell (p := ⟨gF, i * 4, none⟩) (.inl hgS) (.int .i64 (-4))).setCell (p := ⟨gF, i * 4 + 1, none⟩) (.inl hgS) (.int .i64 0)).setCell (p := ⟨gF, i * 4 + 2, none⟩) (.inl hgS) (.int .i64 0)).setCell (p := ⟨gF, i * 4 + 3, none⟩) (.inl hgS) (.slice none 0 0))
              have HX4 := Lib.hid (hX.only (((((Only.refl (fun b => b = gF) w4).setCell (p := ⟨gF, i * 4, none⟩) (.inl rfl) (.int .i64 (-4))).setCell (p := ⟨gF, i * 4 + 1, none⟩) (.inl rfl) (.int .i64 0)).setCell (p := ⟨gF, i * 4 + 2, none⟩) (.inl rfl) (.int .i64 0)).setCell (p := ⟨gF, i * 4 + 3, none⟩) (.inl rfl) (.slice none 0 0)) fun e => gg e.symm)
              clear hC hX hO hvl hgS a3 b3
              go_wp2_with fail
              exact ⟨⟨i + 1, _, by omega, by go_num, HR4.out, HX4.out, HO4.out⟩, by simp [intOf]; omega⟩
        · have HF := Lib.hid (hO.below' Hb1.out Hgx.out htop)
          clear hO hX hR
          go_wp2_with fail
          exact bodyPost_end (v := .tuple #[]) (results_none rfl _ _ _) rfl ⟨rfl, HF.out⟩
end Go.Proofs.Ytadnjfoinmeloaa
