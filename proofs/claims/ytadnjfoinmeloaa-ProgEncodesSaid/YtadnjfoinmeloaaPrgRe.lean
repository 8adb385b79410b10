/- The walk of the reference's Encode of programs. -/
import Derived.Test.YtadnjfoinmeloaaPrgEw
import Derived.Test.YtadnjfoinmeloaaInB
import Derived.Test.YtadnjfoinmeloaaRefK
import Derived.Test.YtadnjfoinmeloaaInsJ
namespace Go.Proofs.Ytadnjfoinmeloaa
open Go.RowKit

theorem refNum_any (n : Int) (w : World) : Calls Try.prog 37 #[.int .i64 n] w fun e w' => e = .returned (.agg #[.int .i64 1, .int .i64 n, .slice none 0 0]) ∧ Below w.heap.size w w' := by
  go_enter Try.func37, Try.ntmps37
  go_wp2_with fail
  refine bodyPost_ret (v := .agg #[.int .i64 1, .int .i64 n, .slice none 0 0]) ?_ rfl ⟨rfl, ?_⟩
  · simp [results, Try.results37, go_sem]
  · first | exact (Below.refl _ _).alloc (Nat.le_refl _) _ | exact ((((Below.refl _ _).alloc (Nat.le_refl _) _).setCell (by simp) _).setCell (by simp) _).setCell (by simp) _
theorem refFrom_all : ∀ (l : List Item) (out : List UInt8), (∀ x ∈ l, x.kind = 1 → 0 ≤ x.n) → out.length + (l.flatMap itemL).length ≤ 4194304 → refFrom out l = (out ++ l.flatMap itemL, 0) := by
  intro l
  induction l with
  | nil => intro out _ _; unfold refFrom; simp
  | cons x l ih =>
    intro out h hl
    rw [List.flatMap_cons, List.length_append] at hl
    unfold refFrom
    rw [if_neg (fun hx => by have := h x (List.mem_cons_self ..) hx.1; omega), if_neg (by omega), ih _ (fun y hy => h y (List.mem_cons_of_mem _ hy)) (by rw [List.length_append]; omega), List.flatMap_cons, List.append_assoc]
theorem item_info : (Try.prog.info? 66).map (fun i => (i.zero, i.size, i.bytes)) = some (some (.agg #[.int .i64 0, .int .i64 0, .slice none 0 0]), 3, 40) := by kernel_rfl
theorem eItem : Elem Try.prog 37 66 3 40 := elem_of Try.underlying37 item_info rfl (by decide)
theorem itemCells_one (l : List Item) : ∀ u ∈ l.flatMap itemCells, u.oneCell' = true := by
  intro u hu
  obtain ⟨x, -, hx⟩ := List.mem_flatMap.1 hu
  simp only [itemCells, List.mem_cons, List.not_mem_nil, or_false] at hx
  rcases hx with rfl | rfl | rfl <;> rfl
def numIt (n : Int) : Item := ⟨1, n, ⟨none, 0, []⟩⟩
def bytIt (A : Option Addr) (c : Nat) (ys : List UInt8) : Item := ⟨4, 0, ⟨A, c, ys⟩⟩
theorem itemL_num (n : Int) : itemL (numIt n) = formL n.toNat := by unfold itemL numIt; rw [if_pos rfl]
theorem itemL_byt (A : Option Addr) (c : Nat) (ys : List UInt8) : itemL (bytIt A c ys) = formL ys.length ++ ys := by
  unfold itemL bytIt
  simp
/-- The things of a row: each lies, none in the row's own block. -/
structure Its (w : World) (A : Option Addr) (its : List Item) : Prop where
  sl : ∀ x ∈ its, Sl w x.p
  ok : ∀ x ∈ its, x.ok
  pos : ∀ x ∈ its, x.kind = 1 → 0 ≤ x.n
  len : ∀ x ∈ its, x.p.ys.length ≤ 70368744177664
  far : ∀ x ∈ its, ∀ b o, 0 < x.p.ys.length → x.p.A = some ⟨b, o, none⟩ → b < w.heap.size ∧ A.map (·.block) ≠ some b
theorem Its.below {w w' : World} {A : Option Addr} {its : List Item} (h : Its w A its) (hb : Below w.heap.size w w') : Its w' A its :=
  ⟨fun x hx => (h.sl x hx).below hb, h.ok, h.pos, h.len, fun x hx b o h0 e => ⟨Nat.lt_of_lt_of_le (h.far x hx b o h0 e).1 hb.size, (h.far x hx b o h0 e).2⟩⟩
theorem Its.grown {w w' : World} {A A2 : Option Addr} {its : List Item} (h : Its w A its) (hg : w.grownBy w' (A.map (·.block))) (hA : A2.map (·.block) = A.map (·.block) ∨ A2.map (·.block) = some w.heap.size) : Its w' A2 its := by
  have hO : Only (fun b => A.map (·.block) = some b) w w' := Only.of_grown hg fun k e => e
  refine ⟨fun x hx => (h.sl x hx).only hO fun b o h0 e hs => (h.far x hx b o h0 e).2 hs, h.ok, h.pos, h.len, fun x hx b o h0 e => ⟨Nat.lt_of_lt_of_le (h.far x hx b o h0 e).1 hO.size, fun e2 => ?_⟩⟩
  rcases hA with hA | hA
  · exact (h.far x hx b o h0 e).2 (hA ▸ e2)
  · rw [hA] at e2
    injection e2 with e2
    have := (h.far x hx b o h0 e).1
    omega
theorem Its.app {w : World} {A : Option Addr} {its its2 : List Item} (h : Its w A its) (h2 : Its w A its2) : Its w A (its ++ its2) :=
  ⟨fun x hx => (List.mem_append.1 hx).elim (h.sl x) (h2.sl x), fun x hx => (List.mem_append.1 hx).elim (h.ok x) (h2.ok x), fun x hx => (List.mem_append.1 hx).elim (h.pos x) (h2.pos x), fun x hx => (List.mem_append.1 hx).elim (h.len x) (h2.len x), fun x hx => (List.mem_append.1 hx).elim (h.far x) (h2.far x)⟩
theorem its_num {w : World} {A : Option Addr} {n : Int} (h0 : 0 ≤ n) (h1 : n ≤ 9223372036854775807) : Its w A [numIt n] := by
  refine ⟨fun x hx => ?_, fun x hx => ?_, fun x hx => ?_, fun x hx => ?_, fun x hx b o h0 => ?_⟩
  all_goals
    obtain rfl : x = numIt n := by simpa using hx
  · exact nilSl w
  · exact ⟨by show (-9223372036854775808 : Int) ≤ 1; decide, by show (1 : Int) ≤ 9223372036854775807; decide, by show _ ≤ n; omega, h1, by simp [numIt]⟩
  · exact fun _ => h0
  · simp [numIt]
  · simp [numIt] at h0
theorem its_byt {w : World} {A B : Option Addr} {c : Nat} {ys : List UInt8} (hs : Sl w ⟨B, c, ys⟩) (hl : ys.length ≤ 70368744177664) (hf : ∀ b o, 0 < ys.length → B = some ⟨b, o, none⟩ → b < w.heap.size ∧ A.map (·.block) ≠ some b) : Its w A [bytIt B c ys] := by
  refine ⟨fun x hx => ?_, fun x hx => ?_, fun x hx => ?_, fun x hx => ?_, fun x hx b o h0 e => ?_⟩
  all_goals
    obtain rfl : x = bytIt B c ys := by simpa using hx
  · exact hs
  · exact ⟨by show (-9223372036854775808 : Int) ≤ 4; decide, by show (4 : Int) ≤ 9223372036854775807; decide, by show (-9223372036854775808 : Int) ≤ 0; decide, by show (0 : Int) ≤ 9223372036854775807; decide, by show ys.length ≤ _; omega⟩
  · intro h
    have h : (4 : Int) = 1 := h
    omega
  · exact hl
  · exact hf b o h0 e
set_option maxRecDepth 100000 in
set_option maxHeartbeats 4000000 in
theorem refEncodeP_any (p : PrgM) (w : World) (h : PrgAt w p) : Calls Try.prog 17 #[p.val] w (EncPost w (encP p.plain)) := by
  have hck := fun w1 (h1 : PrgAt w1 p) => refCheck_any p w1 h1
  obtain ⟨C, hC⟩ : ∃ C, C = checkL p.plain := ⟨_, rfl⟩
  rw [← hC] at hck
  have HC := Lib.hid hC
  have Hck := Lib.hid hck
  clear hC hck
  obtain ⟨R, hR⟩ : ∃ R, R = encP p.plain := ⟨_, rfl⟩
  rw [← hR]
  have HR := Lib.hid hR
  clear hR
  obtain ⟨mem, AD, cD, data, AF, cF, fs⟩ := p
  have H := Lib.hid h
  have hdl : data.length ≤ 140737488351232 := h.dlen
  have hfl : fs.length ≤ 2932031007402 := h.flen
  clear h
  go_enter Try.func17, Try.ntmps17
  go_wp2_with fail
  obtain ⟨w1, hw1⟩ : ∃ w1, w1 = w.alloc (.cells #[.int .i64 mem, .slice AD data.length cD, .slice AF fs.length cF] 25) := ⟨_, rfl⟩
  rw [← hw1]
  have hb1 : Below w.heap.size w w1 := by rw [hw1]; exact (Below.refl _ _).alloc (Nat.le_refl _) _
  have hX1 : Blk w1 w.heap.size 25 #[.int .i64 mem, .slice AD data.length cD, .slice AF fs.length cF] := by rw [hw1]; exact Blk.new _ _ _
  have hz1 := hX1.lt
  have Hb1 := Lib.hid hb1
  have HX1 := Lib.hid hX1
  clear hw1 hb1 hX1
  refine (Hck.out w1 (H.out.below Hb1.out)).mono ?_
  rintro e w2 ⟨rfl, hb12⟩
  have hz12 := hb12.size
  have HB2 := Lib.hid (Hb1.out.trans (hb12.mono (by omega)))
  have hX2 := HX1.out.below hb12 hz1
  have HX2 := Lib.hid hX2
  clear hb12 Hck
  by_cases hc0 : C = 0
  · have hok := (checkL_ok _).1 (HC.out.symm.trans hc0)
    obtain ⟨hbh, hgf⟩ := hok
    have hhl := headL_le hbh
    have hbn := badH_not hbh
    simp only [PrgM.plain, List.length_map] at hbn
    obtain ⟨b1, b2, b3, b4, b5⟩ := hbn
    have Hgf := Lib.hid (show ∀ f ∈ fs, GoodF f.plain from fun f hf => hgf _ (List.mem_map.2 ⟨f, hf, rfl⟩))
    have hR2 : R = if 1048576 < (progL (PrgM.plain ⟨mem, AD, cD, data, AF, cF, fs⟩)).length then ([], 2) else (progL (PrgM.plain ⟨mem, AD, cD, data, AF, cF, fs⟩), 0) := by
      rw [HR.out]
      unfold encP
      rw [if_pos (HC.out.symm.trans hc0)]
    have HR2 := Lib.hid hR2
    have hxl := hX2.lt
    have x0 : ∀ x : BW w2.heap.size w2, x.w.cell? ⟨w.heap.size, 0, none⟩ = some (.int .i64 mem) := fun x => (x.blk hX2 hxl).cell 0
    have x1 : ∀ x : BW w2.heap.size w2, x.w.cell? ⟨w.heap.size, 1, none⟩ = some (.slice AD data.length cD) := fun x => (x.blk hX2 hxl).cell 1
    have x2 : ∀ x : BW w2.heap.size w2, x.w.cell? ⟨w.heap.size, 2, none⟩ = some (.slice AF fs.length cF) := fun x => (x.blk hX2 hxl).cell 2
    subst hc0
    clear hR2 hbh hgf HR hX2
    go_wp2_with fail
    try simp only [Act.put]
    refine region_inB_tail 11 w2.heap.size w2 (Below.refl _ _) (by kernel_rfl) (by kernel_rfl) ?_
    simp only [List.take_succ_cons, List.take_zero, List.drop_succ_cons, List.drop_zero]
    repeat (go_big_quiet_step (with_reducible exact Calls.inBat _ (refNum_any _ _) (Nat.le_refl _)))
    refine wpQuiet_nil ?_
    intro w3 hb23
    have hz23 := hb23.size
    have HB3 := Lib.hid (HB2.out.trans (hb23.mono HB2.out.size))
    have HX3 := Lib.hid (HX2.out.below hb23 hxl)
    have Hb23 := Lib.hid hb23
    obtain ⟨P, hP⟩ : ∃ P, P = PrgM.plain ⟨mem, AD, cD, data, AF, cF, fs⟩ := ⟨_, rfl⟩
    have hPf : P.fs = fs.map FunM.plain := by rw [hP]; rfl
    have hPh : headL P = formL 2 ++ formL mem.toNat ++ (formL data.length ++ data) ++ formL fs.length := by
      rw [hP]
      unfold headL
      simp only [PrgM.plain, List.length_map]
    rw [← hP] at HR2 hhl
    have HPf := Lib.hid hPf
    have HPh := Lib.hid hPh
    clear x0 x1 x2 hb23 hP hPf hPh
    go_wp2_with fail
    obtain ⟨w4, hw4⟩ : ∃ w4, w4 = w3.alloc (.cells #[.int .i64 1, .int .i64 2, .slice none 0 0, .int .i64 1, .int .i64 mem, .slice none 0 0, .int .i64 4, .int .i64 0, .slice AD data.length cD, .int .i64 1, .int .i64 (fs.length : Int), .slice none 0 0] 66) := ⟨_, rfl⟩
    rw [← hw4]
    have hb34 : Below w3.heap.size w3 w4 := by rw [hw4]; exact (Below.refl _ _).alloc (Nat.le_refl _) _
    have hown4 : Own w4 w2.heap.size 66 3 (some ⟨w3.heap.size, 0, none⟩) 4 4 ([numIt 2, numIt mem, bytIt AD cD data, numIt (fs.length : Int)].flatMap itemCells) := by
      rw [hw4]
      exact Own.lit w3 66 3 4 #[.int .i64 1, .int .i64 2, .slice none 0 0, .int .i64 1, .int .i64 mem, .slice none 0 0, .int .i64 4, .int .i64 0, .slice AD data.length cD, .int .i64 1, .int .i64 (fs.length : Int), .slice none 0 0] hz23 (by decide) rfl
    have hz34 : w3.heap.size < w4.heap.size := by rw [hw4]; simp
    have HB24 := Lib.hid (Hb23.out.trans (hb34.mono hz23))
    have hits : Its w4 (some ⟨w3.heap.size, 0, none⟩) [numIt 2, numIt mem, bytIt AD cD data, numIt (fs.length : Int)] := by
      have hsd := (H.out.data.below HB3.out).below hb34
      have h3 : Its w4 (some ⟨w3.heap.size, 0, none⟩) [bytIt AD cD data] := its_byt hsd (by omega) fun b o h0 e => by
        obtain ⟨b2, o2, e2, h2, -⟩ := H.out.data.rv.at_ (by rw [List.length_map]; exact h0)
        have e3 := e.symm.trans e2
        injection e3 with e3
        injection e3 with e3 _ _
        have := HB2.out.size
        refine ⟨by omega, fun e4 => ?_⟩
        injection e4 with e4
        dsimp only at e4
        omega
      exact (its_num (by decide) (by decide)).app ((its_num b1 (by omega)).app (h3.app (its_num (by omega) (by omega))))
    have hP0 : progL P = [numIt 2, numIt mem, bytIt AD cD data, numIt (fs.length : Int)].flatMap itemL ++ ((fs.drop 0).map FunM.plain).flatMap funL := by
      unfold progL
      rw [HPf.out, HPh.out]
      simp only [List.flatMap_cons, List.flatMap_nil, itemL_num, itemL_byt, List.append_assoc, List.append_nil, List.drop_zero, Int.toNat_natCast]
      rfl
    have hl0 : ([numIt 2, numIt mem, bytIt AD cD data, numIt (fs.length : Int)].flatMap itemL).length ≤ 65572 := by
      have e : [numIt 2, numIt mem, bytIt AD cD data, numIt (fs.length : Int)].flatMap itemL = headL P := by
        rw [HPh.out]
        simp only [List.flatMap_cons, List.flatMap_nil, itemL_num, itemL_byt, List.append_assoc, List.append_nil, Int.toNat_natCast]
        rfl
      rw [e]
      exact hhl
    have HP0 := Lib.hid hP0
    have Hits := Lib.hid hits
    have Hown4 := Lib.hid hown4
    clear hw4 hb34 hown4 hits hP0
    go_loopw [5, 6] (fun v i wr => ∃ (k : Nat) (its : List Item) (A' : Option Addr) (c' : Nat), k ≤ fs.length ∧ i = .int .i64 k ∧ v = .slice A' its.length c' ∧ Own wr w2.heap.size 66 3 A' its.length c' (its.flatMap itemCells) ∧ Its wr A' its ∧ its.length ≤ 4 + 4 * k ∧ (its.flatMap itemL).length ≤ 65572 + 40996 * k ∧ Hid (progL P = its.flatMap itemL ++ ((fs.drop k).map FunM.plain).flatMap funL) ∧ Below w2.heap.size w2 wr) (fun _ i _ => fs.length - (intOf i).toNat)
    case atStart => exact ⟨0, _, some ⟨w3.heap.size, 0, none⟩, 4, Nat.zero_le _, rfl, rfl, Hown4.out, Hits.out, by simp, by omega, HP0, HB24.out⟩
    case round =>
      rename World => v0
      obtain ⟨k, its, A', c', hk, rfl, rfl, hown, hits, hil, hXl, hPX, hB⟩ := hrel
      have hzv := hB.size
      have hrow := Own.row hown
      have hX := HX2.out.below hB hxl
      have x2 : v0.cell? ⟨w.heap.size, 2, none⟩ = some (.slice AF fs.length cF) := hX.cell 2
      have hxl0 := hX.lt
      have Hown := Lib.hid hown
      have Hit := Lib.hid hits
      have HBv := Lib.hid hB
      clear hown hits hB hX
      by_cases hlt : k < fs.length
      · have g2 : (k : Int) < (fs.length : Int) := by omega
        have hPv := H.out.below (HB2.out.trans (HBv.out.mono HB2.out.size))
        obtain ⟨b, off, hA, hb, hc⟩ := hPv.rv.at_ (by rw [funCells_len]; dsimp only; omega)
        dsimp only at hA
        subst hA
        obtain ⟨q0, q1, q2, q3⟩ := fun_cells hc k hlt
        have hF := hPv.funs _ (List.getElem_mem hlt)
        have hG := Hgf.out _ (List.getElem_mem hlt)
        have hdr : fs.drop k = fs[k] :: fs.drop (k + 1) := List.drop_eq_getElem_cons hlt
        rw [hdr, List.map_cons, List.flatMap_cons, ← List.append_assoc] at hPX
        dsimp only at q0 q1 q2 q3 hF
        obtain ⟨f, hf⟩ : ∃ f : FunM, f = fs[k] := ⟨_, rfl⟩
        rw [← hf] at q0 q1 q2 q3 hF hG hPX
        have hfu := funL_le hG
        have hcl := codeL_le hG
        obtain ⟨fa, fl, fr, FA, fc, fcode⟩ := f
        dsimp only at q0 q1 q2 q3
        have hbn := badF_not hG.bad
        simp only [FunM.plain] at hbn
        obtain ⟨f1, f2, f3, f4, f5, f6, f7, f8⟩ := hbn
        have hee : encL fcode = (codeL (FunM.plain ⟨fa, fl, fr, FA, fc, fcode⟩), 0) := by
          have := hG.enc
          unfold codeL
          rw [← this]
          rfl
        have Hee := Lib.hid hee
        have Hfue := Lib.hid (show funL (FunM.plain ⟨fa, fl, fr, FA, fc, fcode⟩) = formL fa.toNat ++ formL fl.toNat ++ formL fr.toNat ++ (formL (codeL (FunM.plain ⟨fa, fl, fr, FA, fc, fcode⟩)).length ++ codeL (FunM.plain ⟨fa, fl, fr, FA, fc, fcode⟩)) from rfl)
        have HF := Lib.hid hF
        generalize codeL (FunM.plain ⟨fa, fl, fr, FA, fc, fcode⟩) = cs at *
        generalize funL (FunM.plain ⟨fa, fl, fr, FA, fc, fcode⟩) = fu at *
        clear hF hG hPv hc hdr hf hee
        go_wp2_with fail
        obtain ⟨v1, hv1⟩ : ∃ v1, v1 = v0.alloc (.cells #[.int .i64 fa, .int .i64 fl, .int .i64 fr, .slice FA fcode.length fc] 50) := ⟨_, rfl⟩
        rw [← hv1]
        have hb01 : Below v0.heap.size v0 v1 := by rw [hv1]; exact (Below.refl _ _).alloc (Nat.le_refl _) _
        have hF1 : Blk v1 v0.heap.size 50 #[.int .i64 fa, .int .i64 fl, .int .i64 fr, .slice FA fcode.length fc] := by rw [hv1]; exact Blk.new _ _ _
        have hzv1 := hF1.lt
        have hren := refEncode_any FA fc fcode v1 (HF.out.rv.below hb01) HF.out.ok (by have := HF.out.len; unfold maxLen; dsimp only at this; omega)
        rw [Hee.out] at hren
        have Hren := Lib.hid hren
        have HF1 := Lib.hid hF1
        have Hb01 := Lib.hid hb01
        clear hv1 hb01 hF1 hren q0 q1 q2 q3
        refine Hren.out.mono ?_
        intro e v2 hpost
        obtain ⟨A5, c5, rfl, hown5, hb12⟩ := hpost
        try dsimp only at hown5
        have hz12v := hb12.size
        have hF2 := HF1.out.below hb12 hzv1
        have hyl := hF2.lt
        have y0 : ∀ x : BW v2.heap.size v2, x.w.cell? ⟨v0.heap.size, 0, none⟩ = some (.int .i64 fa) := fun x => (x.blk hF2 hyl).cell 0
        have y1 : ∀ x : BW v2.heap.size v2, x.w.cell? ⟨v0.heap.size, 1, none⟩ = some (.int .i64 fl) := fun x => (x.blk hF2 hyl).cell 1
        have y2 : ∀ x : BW v2.heap.size v2, x.w.cell? ⟨v0.heap.size, 2, none⟩ = some (.int .i64 fr) := fun x => (x.blk hF2 hyl).cell 2
        have Hown5 := Lib.hid hown5
        have HB02 := Lib.hid (Hb01.out.trans (hb12.mono (by omega)))
        clear hown5 hb12 hF2 Hren Hb01 HF1
        go_wp2_with fail
        try simp only [Act.put]
        have hS : ∀ w' : World, Below v2.heap.size v2 w' → w'.cell? ⟨v0.heap.size, 0, none⟩ = some (.int .i64 fa) ∧ w'.cell? ⟨v0.heap.size, 1, none⟩ = some (.int .i64 fl) ∧ w'.cell? ⟨v0.heap.size, 2, none⟩ = some (.int .i64 fr) := fun w' h => ⟨y0 ⟨w', h⟩, y1 ⟨w', h⟩, y2 ⟨w', h⟩⟩
        refine region_heldT 13 (fun w' => w'.cell? ⟨v0.heap.size, 0, none⟩ = some (.int .i64 fa) ∧ w'.cell? ⟨v0.heap.size, 1, none⟩ = some (.int .i64 fl) ∧ w'.cell? ⟨v0.heap.size, 2, none⟩ = some (.int .i64 fr)) (by kernel_rfl) (by decide) ?_
        have hb2d := below_drewN (Below.refl v2.heap.size v2) 1
        have hS0 := hS _ hb2d
        refine HeadW.take 0 (v := .slice A' its.length c') rfl (by kernel_rfl) (by kernel_rfl) (by kernel_rfl) (by decide) (by decide) (fun _ _ _ hL => seqB_ready hL.1) (by kernel_rfl) (by kernel_rfl) (fun _ _ _ h => h) hS0 (.inl ⟨by rfl, by intro w hSw; (try dsimp only at hSw); go_simp⟩) ?_
        simp only [Act.put, List.setIfInBounds_toArray]
        refine HeadW.take 1 (v := .pointer (some ⟨v0.heap.size, 0, none⟩)) rfl (by kernel_rfl) (by kernel_rfl) (by kernel_rfl) (by decide) (by decide) (fun _ _ _ hL => seqB_ready hL.1) (by kernel_rfl) (by kernel_rfl) (fun _ _ _ h => h) hS0 (.inl ⟨by rfl, by intro w hSw; (try dsimp only at hSw); go_simp⟩) ?_
        simp only [Act.put]
        refine HeadW.take 2 (v := .int .i64 fa) rfl (by kernel_rfl) (by kernel_rfl) (by kernel_rfl) (by decide) (by decide) (fun _ _ _ hL => seqB_ready hL.1) (by kernel_rfl) (by kernel_rfl) (fun _ _ _ h => h) hS0 (.inl ⟨by rfl, by intro w hSw; (try dsimp only at hSw); go_simp⟩) ?_
        simp only [Act.put]
        refine HeadW.take 4 (v := .pointer (some ⟨v0.heap.size, 1, none⟩)) rfl (by kernel_rfl) (by kernel_rfl) (by kernel_rfl) (by decide) (by decide) (fun _ _ _ hL => seqB_ready hL.1) (by kernel_rfl) (by kernel_rfl) (fun _ _ _ h => h) hS0 (.inl ⟨by rfl, by intro w hSw; (try dsimp only at hSw); go_simp⟩) ?_
        simp only [Act.put]
        refine HeadW.take 5 (v := .int .i64 fl) rfl (by kernel_rfl) (by kernel_rfl) (by kernel_rfl) (by decide) (by decide) (fun _ _ _ hL => seqB_ready hL.1) (by kernel_rfl) (by kernel_rfl) (fun _ _ _ h => h) hS0 (.inl ⟨by rfl, by intro w hSw; (try dsimp only at hSw); go_simp⟩) ?_
        simp only [Act.put]
        refine HeadW.take 7 (v := .pointer (some ⟨v0.heap.size, 2, none⟩)) rfl (by kernel_rfl) (by kernel_rfl) (by kernel_rfl) (by decide) (by decide) (fun _ _ _ hL => seqB_ready hL.1) (by kernel_rfl) (by kernel_rfl) (fun _ _ _ h => h) hS0 (.inl ⟨by rfl, by intro w hSw; (try dsimp only at hSw); go_simp⟩) ?_
        simp only [Act.put]
        refine HeadW.take 8 (v := .int .i64 fr) rfl (by kernel_rfl) (by kernel_rfl) (by kernel_rfl) (by decide) (by decide) (fun _ _ _ hL => seqB_ready hL.1) (by kernel_rfl) (by kernel_rfl) (fun _ _ _ h => h) hS0 (.inl ⟨by rfl, by intro w hSw; (try dsimp only at hSw); go_simp⟩) ?_
        simp only [Act.put]
        refine HeadW.take 10 (v := .slice A5 cs.length c5) rfl (by kernel_rfl) (by kernel_rfl) (by kernel_rfl) (by decide) (by decide) (fun _ _ _ hL => seqB_ready hL.1) (by kernel_rfl) (by kernel_rfl) (fun _ _ _ h => h) hS0 (.inl ⟨by rfl, by intro w hSw; (try dsimp only at hSw); go_simp⟩) ?_
        simp only [Act.put]
        refine HeadW.take 11 (v := .agg #[.int .i64 4, .int .i64 0, .slice A5 cs.length c5]) rfl (by kernel_rfl) (by kernel_rfl) (by kernel_rfl) (by decide) (by decide) (fun _ _ _ hL => seqB_ready hL.1) (by kernel_rfl) (by kernel_rfl) (fun _ _ _ h => h) hS0 (.inl ⟨by rfl, by intro w hSw; (try dsimp only at hSw); go_simp⟩) ?_
        simp only [Act.put]
        obtain ⟨u0, hu0⟩ : ∃ u0, u0 = v2.drew := ⟨_, rfl⟩
        have Hu0 := Lib.hid (show Below v2.heap.size v2 u0 from by rw [hu0]; exact hb2d)
        have HS := Lib.hid hS
        rw [← hu0]
        clear hu0 hb2d hS0 hS y0 y1 y2
        refine HeadW.one 3 rfl (by decide) (by kernel_rfl) fun K hK => ?_
        go_simp
        refine (refNum_any fa u0).mono ?_
        rintro e u1 ⟨rfl, hb_u1⟩
        have Hu1 := Lib.hid (Hu0.out.trans (hb_u1.mono Hu0.out.size))
        refine hK.out _ _ (HS.out _ Hu1.out) (fun hHeld => ?_)
        clear hK K hHeld hb_u1
        refine HeadW.one 6 rfl (by decide) (by kernel_rfl) fun K hK => ?_
        go_simp
        refine (refNum_any fl u1).mono ?_
        rintro e u2 ⟨rfl, hb_u2⟩
        have Hu2 := Lib.hid (Hu1.out.trans (hb_u2.mono Hu1.out.size))
        refine hK.out _ _ (HS.out _ Hu2.out) (fun hHeld => ?_)
        clear hK K hHeld hb_u2
        refine HeadW.one 9 rfl (by decide) (by kernel_rfl) fun K hK => ?_
        go_simp
        refine (refNum_any fr u2).mono ?_
        rintro e v3 ⟨rfl, hb_v3⟩
        have Hv3 := Lib.hid (Hu2.out.trans (hb_v3.mono Hu2.out.size))
        refine hK.out _ _ (HS.out _ Hv3.out) (fun hHeld => ?_)
        clear hK K hHeld hb_v3
        have hz23v := Hv3.out.size
        have HB03 := Lib.hid (HB02.out.trans (Hv3.out.mono (by omega)))
        have HS5 := Lib.hid ((Sl.of_own Hown5.out).below Hv3.out)
        refine HeadW.one 12 rfl (by decide) (by kernel_rfl) fun K hK => ?_
        go_simp
        refine hK.out _ _ (HS.out _ (Hv3.out.alloc Hv3.out.size _)) (fun hHeld => ?_)
        clear hK K hHeld HB02
        refine fun _ => ⟨by kernel_rfl, ?_⟩
        obtain ⟨v4, hv4⟩ : ∃ v4, v4 = v3.alloc (.cells #[.int .i64 1, .int .i64 fa, .slice none 0 0, .int .i64 1, .int .i64 fl, .slice none 0 0, .int .i64 1, .int .i64 fr, .slice none 0 0, .int .i64 4, .int .i64 0, .slice A5 cs.length c5] 66) := ⟨_, rfl⟩
        rw [← hv4]
        have hb34v : Below v3.heap.size v3 v4 := by rw [hv4]; exact (Below.refl _ _).alloc (Nat.le_refl _) _
        have hU4 : Blk v4 v3.heap.size 66 #[.int .i64 1, .int .i64 fa, .slice none 0 0, .int .i64 1, .int .i64 fl, .slice none 0 0, .int .i64 1, .int .i64 fr, .slice none 0 0, .int .i64 4, .int .i64 0, .slice A5 cs.length c5] := by rw [hv4]; exact Blk.new _ _ _
        have hz34v := hU4.lt
        have HB04 := Lib.hid (HB03.out.trans (hb34v.mono (by omega)))
        have hown4v := Own.below Hown.out HB04.out (Nat.le_refl _)
        have h2 : Its v4 A' [numIt fa, numIt fl, numIt fr, bytIt A5 c5 cs] := (its_num f1 (by omega)).app ((its_num (by omega) (by omega)).app ((its_num f5 (by omega)).app (its_byt (HS5.out.below hb34v) (by omega) fun b o h0 e => by
          have := Own.lt Hown5.out b o e
          refine ⟨by omega, fun e2 => ?_⟩
          have := hrow b e2
          omega)))
        have hit4 := (Hit.out.below HB04.out).app h2
        clear hv4 hb34v HB03 HS5
        refine wpList_app rfl (.tmp 46) (.tmp 58) eItem rfl rfl hown4v (m := 4) (us := [numIt fa, numIt fl, numIt fr, bytIt A5 c5 cs].flatMap itemCells) rfl (RV.of_blk hU4) rfl (itemCells_one _) (by unfold maxLen; omega) (by omega) (by omega) (by intro h; cases h) ?_
        intro A9 c9 v5 hown9 hg9 hA9
        have hit9 := hit4.grown hg9 hA9
        have hB9 := (HBv.out.trans (HB04.out.mono hzv)).grown hg9 (by omega) fun q hq => (hrow q hq).1
        have hcat : (its ++ [numIt fa, numIt fl, numIt fr, bytIt A5 c5 cs]).flatMap itemL = its.flatMap itemL ++ fu := by
          rw [List.flatMap_append, Hfue.out]
          simp only [List.flatMap_cons, List.flatMap_nil, itemL_num, itemL_byt, List.append_assoc, List.append_nil]
        have hPn : Hid (progL P = (its ++ [numIt fa, numIt fl, numIt fr, bytIt A5 c5 cs]).flatMap itemL ++ ((fs.drop (k + 1)).map FunM.plain).flatMap funL) := Lib.hid (by rw [hcat]; exact hPX.out)
        have hln : ((its ++ [numIt fa, numIt fl, numIt fr, bytIt A5 c5 cs]).flatMap itemL).length ≤ 65572 + 40996 * (k + 1) := by rw [hcat, List.length_append]; omega
        have hown9' : Own v5 w2.heap.size 66 3 A9 (its ++ [numIt fa, numIt fl, numIt fr, bytIt A5 c5 cs]).length c9 ((its ++ [numIt fa, numIt fl, numIt fr, bytIt A5 c5 cs]).flatMap itemCells) := by
          rw [List.flatMap_append, List.length_append]
          exact hown9
        have Hown9 := Lib.hid hown9'
        have Hit9 := Lib.hid hit9
        have HB9 := Lib.hid hB9
        have hll : (its ++ [numIt fa, numIt fl, numIt fr, bytIt A5 c5 cs]).length = its.length + 4 := by rw [List.length_append]; rfl
        generalize its ++ [numIt fa, numIt fl, numIt fr, bytIt A5 c5 cs] = itn at *
        have Hll := Lib.hid hll
        clear hown9 hown9' hit9 hB9 hg9 hA9 hit4 h2 hown4v hU4 hcat hPX hll
        go_wp2_with fail
        exact ⟨⟨k + 1, itn, A9, c9, by omega, by go_num, by rw [Hll.out], Hown9.out, Hit9.out, by have := Hll.out; omega, hln, hPn, HB9.out⟩, by simp [intOf]; omega⟩
      · have hPe : progL P = its.flatMap itemL := by rw [hPX.out, List.drop_eq_nil_of_le (by omega)]; simp
        have hdn := refDone_any A' c' its v0 ⟨RV.of_own Hown.out, Hit.out.sl, Hit.out.ok⟩ (by omega) Hit.out.len
        rw [refFrom_all its [] Hit.out.pos (by simp only [List.length_nil]; omega), List.nil_append, ← hPe] at hdn
        have hpl : (progL P).length ≤ 4194304 := by rw [hPe]; omega
        have Hdn := Lib.hid hdn
        have HB0 := Lib.hid (HB2.out.trans (HBv.out.mono HB2.out.size))
        clear hdn hPe hPX
        generalize progL P = X at *
        go_wp2_with fail
        refine Hdn.out.mono ?_
        intro e v1 hpost
        obtain ⟨A1, c1, rfl, hown1, hb1⟩ := hpost
        have HB1 := Lib.hid (HB0.out.trans (hb1.mono HB0.out.size))
        have hown1' := hown1.mono HB0.out.size
        have Hown1 := Lib.hid hown1'
        clear hown1 hown1' hb1 Hdn
        by_cases hbig : 1048576 < X.length
        · have g3 : (1048576 : Int) < (X.length : Int) := by omega
          have HRn : Hid (R = ([], 2)) := Lib.hid (by rw [HR2.out, if_pos hbig])
          clear HR2
          go_wp2_with fail
          go_ret2
          rw [HRn.out]
          exact ⟨none, 0, rfl, Own.nil _ _ _ _, HB1.out⟩
        · have g3 : ¬ (1048576 : Int) < (X.length : Int) := by omega
          have HRn : Hid (R = (X, 0)) := Lib.hid (by rw [HR2.out, if_neg hbig])
          clear HR2
          go_wp2_with fail
          go_ret2
          rw [HRn.out]
          exact ⟨A1, c1, rfl, Hown1.out, HB1.out⟩
  · have HRn : Hid (R = ([], C)) := Lib.hid (by rw [HR.out]; unfold encP; rw [if_neg (fun e => hc0 (HC.out.trans e)), HC.out])
    clear HR
    go_wp2_with fail
    go_ret2
    rw [HRn.out]
    exact ⟨none, 0, rfl, Own.nil _ _ _ _, HB2.out⟩
end Go.Proofs.Ytadnjfoinmeloaa
