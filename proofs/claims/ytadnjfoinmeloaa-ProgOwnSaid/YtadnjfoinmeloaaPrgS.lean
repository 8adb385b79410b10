/- Same of programs: prog's and the reference's (printed by gen_psame.py). -/
import Derived.Test.YtadnjfoinmeloaaPrgE
import Derived.Test.YtadnjfoinmeloaaInsJ
import Derived.Test.YtadnjfoinmeloaaInB
import Derived.Deep.QuietTactic
import Derived.BigQuiet
namespace Go.Proofs.Ytadnjfoinmeloaa
open Go.RowKit

def funB (f g : Fun) : Bool := (f.args == g.args && f.locals == g.locals && f.results == g.results) && sameB f.code g.code
def sameFs : List Fun → List Fun → Bool
  | [], [] => true
  | f :: fs, g :: gs => funB f g && sameFs fs gs
  | _, _ => false
def sameP (p q : Prg) : Bool := (p.mem == q.mem && p.data == q.data) && sameFs p.fs q.fs
theorem funB_iff (f g : Fun) : funB f g = true ↔ f = g := by
  obtain ⟨a, b, c, d⟩ := f
  obtain ⟨a', b', c', d'⟩ := g
  simp only [funB, Bool.and_eq_true, beq_iff_eq, sameB_iff, Fun.mk.injEq]
  constructor
  · rintro ⟨⟨⟨h1, h2⟩, h3⟩, h4⟩; exact ⟨h1, h2, h3, h4⟩
  · rintro ⟨h1, h2, h3, h4⟩; exact ⟨⟨⟨h1, h2⟩, h3⟩, h4⟩
theorem sameFs_iff : ∀ fs gs : List Fun, sameFs fs gs = true ↔ fs = gs := by
  intro fs
  induction fs with
  | nil => intro gs; cases gs <;> simp [sameFs]
  | cons f fs ih =>
    intro gs
    cases gs with
    | nil => simp [sameFs]
    | cons g gs => simp only [sameFs, Bool.and_eq_true, funB_iff, ih, List.cons.injEq]
theorem sameP_iff (p q : Prg) : sameP p q = true ↔ p = q := by
  obtain ⟨a, b, c⟩ := p
  obtain ⟨a', b', c'⟩ := q
  simp only [sameP, Bool.and_eq_true, beq_iff_eq, sameFs_iff, Prg.mk.injEq]
  constructor
  · rintro ⟨⟨h1, h2⟩, h3⟩; exact ⟨h1, h2, h3⟩
  · rintro ⟨h1, h2, h3⟩; exact ⟨⟨h1, h2⟩, h3⟩
theorem sameP_self (p : Prg) : sameP p p = true := (sameP_iff p p).2 rfl
theorem sameFs_len (fs gs : List Fun) (h : fs.length ≠ gs.length) : sameFs fs gs = false := by
  cases hs : sameFs fs gs with
  | false => rfl
  | true => exact absurd (congrArg List.length ((sameFs_iff fs gs).1 hs)) h
theorem bool_of_not {a : Bool} (h : ¬ a = true) : a = false := by cases a <;> simp_all
set_option maxRecDepth 100000 in
theorem eqIns_any (A A' : Option Addr) (c c' : Nat) (xs ys : List Ins) (w : World) (h : RV w A (xs.flatMap insCells)) (h' : RV w A' (ys.flatMap insCells)) (hl : xs.length ≤ 9223372036854775807) (_hl' : ys.length ≤ 9223372036854775807) :
    Calls Try.prog 53 #[.slice A xs.length c, .slice A' ys.length c'] w fun e w' => e = .returned (.bool (sameB xs ys)) ∧ ∃ n, w' = w.drewN n := by
  have H := Lib.hid h
  have H' := Lib.hid h'
  clear h h'
  obtain ⟨R, hR⟩ : ∃ R, R = sameB xs ys := ⟨_, rfl⟩
  rw [← hR]
  have HR := Lib.hid hR
  clear hR
  by_cases hn : xs.length = ys.length
  · have Hn := Lib.hid hn
    rw [← hn]
    clear hn
    go_enter Try.func53, Try.ntmps53
    go_wp2_with fail
    go_loopw [13] (fun i wr => ∃ (k m : Nat), k ≤ xs.length ∧ i = .int .i64 k ∧ Hid (R = sameB (xs.drop k) (ys.drop k)) ∧ wr = w.drewN m) (fun i _ => xs.length - (intOf i).toNat)
    case atStart => exact ⟨0, 0, Nat.zero_le _, rfl, HR, rfl⟩
    case round =>
      rename World => wr
      obtain ⟨k, m, hk, rfl, hRk, rfl⟩ := hrel
      by_cases hlt : k < xs.length
      · have g1 : (k : Int) < (xs.length : Int) := by omega
        have hlt' : k < ys.length := by rw [← Hn.out]; exact hlt
        obtain ⟨b, off, rfl, hb, hc⟩ := H.out.at_ (by rw [insCells_len]; omega)
        obtain ⟨b', off', rfl, hb', hc'⟩ := H'.out.at_ (by rw [insCells_len]; omega)
        have p0 := hc _ _ (insCells_get xs k 0 hlt (by omega))
        have p1 := hc _ _ (insCells_get xs k 1 hlt (by omega))
        have q0 := hc' _ _ (insCells_get ys k 0 hlt' (by omega))
        have q1 := hc' _ _ (insCells_get ys k 1 hlt' (by omega))
        have hdx : xs.drop k = xs[k] :: xs.drop (k + 1) := List.drop_eq_getElem_cons hlt
        have hdy : ys.drop k = ys[k] :: ys.drop (k + 1) := List.drop_eq_getElem_cons hlt'
        rw [hdx, hdy] at hRk
        generalize xs[k] = x at *
        generalize ys[k] = y at *
        rw [← Nat.add_assoc] at p1 q1
        replace p0 : w.cell? ⟨b, off + k * 2, none⟩ = some (.int .i64 x.op) := p0
        replace p1 : w.cell? ⟨b, off + k * 2 + 1, none⟩ = some (.int .i64 x.a) := p1
        replace q0 : w.cell? ⟨b', off' + k * 2, none⟩ = some (.int .i64 y.op) := q0
        replace q1 : w.cell? ⟨b', off' + k * 2 + 1, none⟩ = some (.int .i64 y.a) := q1
        clear hc hc' hdx hdy
        by_cases h1 : x.op = y.op ∧ x.a = y.a
        · have hRn : Hid (R = sameB (xs.drop (k + 1)) (ys.drop (k + 1))) := by
            have e := hRk.out
            unfold sameB at e
            rw [h1.1, h1.2] at e
            exact Lib.hid (by simpa using e)
          obtain ⟨e1, e2⟩ := h1
          rw [← e1] at q0
          rw [← e2] at q1
          clear e1 e2 hRk
          go_wp2_with fail
          go_quiet (fail)
          go_wp2_with fail
          exact ⟨⟨k + 1, _, by omega, by go_num, hRn, rfl⟩, by simp [intOf]; omega⟩
        · have hRf : R = false := by
            rw [hRk.out]
            unfold sameB
            have : (x.op == y.op && x.a == y.a) = false := by
              cases hq : (x.op == y.op && x.a == y.a) with
              | false => rfl
              | true => simp only [Bool.and_eq_true, beq_iff_eq] at hq; exact absurd hq h1
            rw [this]
            rfl
          have HRf := Lib.hid hRf
          clear hRf hRk
          by_cases h2 : x.op = y.op
          · have h3 : (x.a == y.a) = false := by
              cases hq : (x.a == y.a) with
              | false => rfl
              | true => exact absurd ⟨h2, by simpa using hq⟩ h1
            rw [← h2] at q0
            clear h1 h2
            go_wp2_with fail
            go_quiet (fail)
            go_wp2_with fail
            go_ret
            exact ⟨by rw [HRf.out]; rfl, _, World.drewN_drewN ..⟩
          · have h3 : (x.op == y.op) = false := by simpa using h2
            clear h1 h2
            go_wp2_with fail
            go_quiet (fail)
            go_wp2_with fail
            go_ret
            exact ⟨by rw [HRf.out]; rfl, _, World.drewN_drewN ..⟩
      · have hRt : R = true := by rw [hRk.out, List.drop_eq_nil_of_le (by omega), List.drop_eq_nil_of_le (by rw [← Hn.out]; omega)]; rfl
        have HRt := Lib.hid hRt
        clear hRt hRk
        go_wp2_with fail
        go_ret
        exact ⟨by rw [HRt.out]; rfl, m, rfl⟩
  · have hRf : R = false := by rw [HR.out]; exact sameB_len _ _ hn
    have HRf := Lib.hid hRf
    have g1 : ¬ (xs.length : Int) = (ys.length : Int) := by omega
    clear hRf hn
    go_enter Try.func53, Try.ntmps53
    go_wp2_with fail
    go_ret
    exact ⟨by rw [HRf.out]; rfl, 0, rfl⟩
theorem bytesEq_any (p q : Part) (w : World) (hp : Sl w p) (hq : Sl w q) : Calls Try.prog 49 #[.slice p.A p.ys.length p.c, .slice q.A q.ys.length q.c] w fun e w' => e = .returned (.bool (p.ys == q.ys)) ∧ w' = w := by
  obtain ⟨A, c, xs⟩ := p
  obtain ⟨A', c', ys⟩ := q
  have H := Lib.hid hp.rv
  have H' := Lib.hid hq.rv
  clear hp hq
  obtain ⟨R, hR⟩ : ∃ R, (xs == ys) = R := ⟨_, rfl⟩
  dsimp only at *
  rw [hR]
  go_enter Try.func49, Try.ntmps49
  go_wp2_with (first
    | (refine wpList_at 6 rfl ?_; refine wpList_bytesStr rfl (.tmp 5) (A := A) (c := c) (ys := xs) rfl rfl H.out Try.underlying22 Try.underlying5 Try.underlying9 ?_)
    | (refine wpList_at 8 rfl ?_; refine wpList_bytesStr rfl (.tmp 7) (A := A') (c := c') (ys := ys) rfl rfl H'.out Try.underlying22 Try.underlying5 Try.underlying9 ?_))
  go_ret
  exact ⟨rfl, rfl⟩
abbrev funV (f : FunM) : Value := .agg #[.int .i64 f.args, .int .i64 f.locals, .int .i64 f.results, .slice f.A f.code.length f.c]
theorem headOf_any (f : FunM) (w : World) : Calls Try.prog 52 #[funV f] w fun e w' => e = .returned (.agg #[.int .i64 f.args, .int .i64 f.locals, .int .i64 f.results]) ∧ Below w.heap.size w w' := by
  obtain ⟨fa, fl, fr, FA, fc, fcode⟩ := f
  go_enter Try.func52, Try.ntmps52
  go_wp2_with fail
  refine bodyPost_ret (v := .agg #[.int .i64 fa, .int .i64 fl, .int .i64 fr]) ?_ rfl ⟨rfl, ?_⟩
  · simp [results, Try.results52, go_sem]
  · first
      | exact ((Below.refl _ _).alloc (Nat.le_refl _) _).alloc (by simp) _
      | exact (((((Below.refl _ _).alloc (Nat.le_refl _) _).alloc (by simp) _).setCell (by simp) _).setCell (by simp) _).setCell (by simp) _
set_option maxRecDepth 100000 in
theorem funSame_any (f g : FunM) (w : World) (hf : FunAt w f) (hg : FunAt w g) : Calls Try.prog 51 #[funV f, funV g] w fun e w' => e = .returned (.bool (funB f.plain g.plain)) ∧ Below w.heap.size w w' := by
  have Hf := Lib.hid hf
  have Hg := Lib.hid hg
  clear hf hg
  obtain ⟨R, hR⟩ : ∃ R, R = funB f.plain g.plain := ⟨_, rfl⟩
  rw [← hR]
  obtain ⟨fa, fl, fr, FA, fc, fcode⟩ := f
  obtain ⟨ga, gl, gr, GA, gc, gcode⟩ := g
  have HR := Lib.hid (show R = ((fa == ga && fl == gl && fr == gr) && sameB fcode gcode) from hR)
  clear hR
  go_enter Try.func51, Try.ntmps51
  go_wp2_with fail
  obtain ⟨w1, hw1⟩ : ∃ w1, w1 = (w.alloc (.cells #[.int .i64 fa, .int .i64 fl, .int .i64 fr, .slice FA fcode.length fc] 50)).alloc (.cells #[.int .i64 ga, .int .i64 gl, .int .i64 gr, .slice GA gcode.length gc] 50) := ⟨_, rfl⟩
  rw [← hw1]
  have hb1 : Below w.heap.size w w1 := by rw [hw1]; exact ((Below.refl _ _).alloc (Nat.le_refl _) _).alloc (by simp) _
  have hF1 : Blk w1 w.heap.size 50 #[.int .i64 fa, .int .i64 fl, .int .i64 fr, .slice FA fcode.length fc] := by rw [hw1]; exact (Blk.new w _ _).alloc _
  have hG1 : Blk w1 (w.heap.size + 1) 50 #[.int .i64 ga, .int .i64 gl, .int .i64 gr, .slice GA gcode.length gc] := by
    rw [hw1]
    have h := Blk.new (w.alloc (.cells #[.int .i64 fa, .int .i64 fl, .int .i64 fr, .slice FA fcode.length fc] 50)) 50 #[.int .i64 ga, .int .i64 gl, .int .i64 gr, .slice GA gcode.length gc]
    rw [World.size_alloc] at h
    exact h
  have hfl := hF1.lt
  have hgl := hG1.lt
  have x0 : ∀ x : BW w1.heap.size w1, x.w.cell? ⟨w.heap.size, 0, none⟩ = some (.int .i64 fa) := fun x => (x.blk hF1 hfl).cell 0
  have x1 : ∀ x : BW w1.heap.size w1, x.w.cell? ⟨w.heap.size, 1, none⟩ = some (.int .i64 fl) := fun x => (x.blk hF1 hfl).cell 1
  have x2 : ∀ x : BW w1.heap.size w1, x.w.cell? ⟨w.heap.size, 2, none⟩ = some (.int .i64 fr) := fun x => (x.blk hF1 hfl).cell 2
  have x3 : ∀ x : BW w1.heap.size w1, x.w.cell? ⟨w.heap.size, 3, none⟩ = some (.slice FA fcode.length fc) := fun x => (x.blk hF1 hfl).cell 3
  have y0 : ∀ x : BW w1.heap.size w1, x.w.cell? ⟨w.heap.size + 1, 0, none⟩ = some (.int .i64 ga) := fun x => (x.blk hG1 hgl).cell 0
  have y1 : ∀ x : BW w1.heap.size w1, x.w.cell? ⟨w.heap.size + 1, 1, none⟩ = some (.int .i64 gl) := fun x => (x.blk hG1 hgl).cell 1
  have y2 : ∀ x : BW w1.heap.size w1, x.w.cell? ⟨w.heap.size + 1, 2, none⟩ = some (.int .i64 gr) := fun x => (x.blk hG1 hgl).cell 2
  have y3 : ∀ x : BW w1.heap.size w1, x.w.cell? ⟨w.heap.size + 1, 3, none⟩ = some (.slice GA gcode.length gc) := fun x => (x.blk hG1 hgl).cell 3
  have hsm : ∀ x : BW w1.heap.size w1, Calls Try.prog 53 #[.slice FA fcode.length fc, .slice GA gcode.length gc] x.w fun e w' => e = .returned (.bool (sameB fcode gcode)) ∧ ∃ n, w' = x.w.drewN n := fun x =>
    eqIns_any FA GA fc gc fcode gcode x.w ((Hf.out.rv.below hb1).below x.h) ((Hg.out.rv.below hb1).below x.h) (by have := Hf.out.len; dsimp only at this; omega) (by have := Hg.out.len; dsimp only at this; omega)
  have Hsm := Lib.hid hsm
  have Hb1 := Lib.hid hb1
  clear hw1 hF1 hG1 hsm hb1
  by_cases hh : (fa == ga && fl == gl && fr == gr) = true
  · have HRs : Hid (R = sameB fcode gcode) := Lib.hid (by rw [HR.out, hh]; rfl)
    simp only [Bool.and_eq_true, beq_iff_eq] at hh
    obtain ⟨⟨rfl, rfl⟩, rfl⟩ := hh
    clear HR
    refine region_inB w1.heap.size w1 (Below.refl _ _) (by kernel_rfl) (by kernel_rfl) ?_
    repeat (go_big_quiet_step (with_reducible (first | exact Calls.inBat _ (headOf_any ⟨_, _, _, _, _, _⟩ _) (Nat.le_refl _) | exact Calls.inBdrew _ (Hsm.out _))))
    refine wpQuiet_nil ?_
    intro w2 hb2
    go_wp2_with fail
    go_ret
    exact ⟨by rw [HRs.out]; rfl, Hb1.out.trans (hb2.mono Hb1.out.size)⟩
  · have hh := bool_of_not hh
    have HRs : Hid (R = false) := Lib.hid (by rw [HR.out, hh]; rfl)
    clear HR
    have hcs : (fa == ga) = false ∨ (fa = ga ∧ (fl == gl) = false) ∨ (fa = ga ∧ fl = gl ∧ (fr == gr) = false) := by
      by_cases h1 : fa = ga
      · by_cases h2 : fl = gl
        · refine .inr (.inr ⟨h1, h2, ?_⟩)
          rw [h1, h2] at hh
          simpa using hh
        · exact .inr (.inl ⟨h1, by simpa using h2⟩)
      · exact .inl (by simpa using h1)
    clear hh
    rcases hcs with h1 | ⟨rfl, h1⟩ | ⟨rfl, rfl, h1⟩
    all_goals
      refine region_inB w1.heap.size w1 (Below.refl _ _) (by kernel_rfl) (by kernel_rfl) ?_
      repeat (go_big_quiet_step (with_reducible (first | exact Calls.inBat _ (headOf_any ⟨_, _, _, _, _, _⟩ _) (Nat.le_refl _) | exact Calls.inBdrew _ (Hsm.out _))))
      refine wpQuiet_nil ?_
      intro w2 hb2
      go_wp2_with fail
      go_ret
      exact ⟨by rw [HRs.out]; rfl, Hb1.out.trans (hb2.mono Hb1.out.size)⟩
set_option maxRecDepth 100000 in
theorem eqFuns_any (A A' : Option Addr) (c c' : Nat) (fs gs : List FunM) (w : World) (h : RV w A (fs.flatMap funCells)) (h' : RV w A' (gs.flatMap funCells)) (hf : ∀ f ∈ fs, FunAt w f) (hg : ∀ g ∈ gs, FunAt w g) (hl : fs.length ≤ 2932031007402) (_hl' : gs.length ≤ 2932031007402) :
    Calls Try.prog 50 #[.slice A fs.length c, .slice A' gs.length c', .func (.func 51) #[] #[]] w fun e w' => e = .returned (.bool (sameFs (fs.map FunM.plain) (gs.map FunM.plain))) ∧ Below w.heap.size w w' := by
  have H := Lib.hid h
  have H' := Lib.hid h'
  have Hf := Lib.hid hf
  have Hg := Lib.hid hg
  clear h h' hf hg
  have hcf : ∀ args wz, (callFunc 51 args).run Try.prog wz = .ok (.enter 51 args) wz := fun _ _ => by kernel_rfl
  obtain ⟨R, hR⟩ : ∃ R, R = sameFs (fs.map FunM.plain) (gs.map FunM.plain) := ⟨_, rfl⟩
  rw [← hR]
  by_cases hn : fs.length = gs.length
  · have HR := Lib.hid (show R = sameFs ((fs.drop 0).map FunM.plain) ((gs.drop 0).map FunM.plain) from hR)
    have Hn := Lib.hid hn
    rw [← hn]
    clear hR hn
    go_enter Try.func50, Try.ntmps50
    go_wp2_with fail
    go_loopw [17] (fun i wr => ∃ (k : Nat), k ≤ fs.length ∧ i = .int .i64 k ∧ Hid (R = sameFs ((fs.drop k).map FunM.plain) ((gs.drop k).map FunM.plain)) ∧ Below w.heap.size w wr) (fun i _ => fs.length - (intOf i).toNat)
    case atStart => exact ⟨0, Nat.zero_le _, rfl, HR, Below.refl _ _⟩
    case round =>
      rename World => w2
      obtain ⟨k, hk, rfl, hRk, hB⟩ := hrel
      have hz2 := hB.size
      have HB := Lib.hid hB
      clear hB
      by_cases hlt : k < fs.length
      · have g1 : (k : Int) < (fs.length : Int) := by omega
        have hlt' : k < gs.length := by rw [← Hn.out]; exact hlt
        obtain ⟨b, off, rfl, hb, hc⟩ := (H.out.below HB.out).at_ (by rw [funCells_len]; omega)
        obtain ⟨b', off', rfl, hb', hc'⟩ := (H'.out.below HB.out).at_ (by rw [funCells_len]; omega)
        obtain ⟨p0, p1, p2, p3⟩ := fun_cells hc k hlt
        obtain ⟨q0, q1, q2, q3⟩ := fun_cells hc' k hlt'
        have hF := (Hf.out _ (List.getElem_mem hlt)).below HB.out
        have hG := (Hg.out _ (List.getElem_mem hlt')).below HB.out
        have hdx : fs.drop k = fs[k] :: fs.drop (k + 1) := List.drop_eq_getElem_cons hlt
        have hdy : gs.drop k = gs[k] :: gs.drop (k + 1) := List.drop_eq_getElem_cons hlt'
        rw [hdx, hdy, List.map_cons, List.map_cons] at hRk
        generalize fs[k] = f at *
        generalize gs[k] = g at *
        obtain ⟨fa, fl, fr, FA, fc, fcode⟩ := f
        obtain ⟨ga, gl, gr, GA, gc, gcode⟩ := g
        dsimp only at p0 p1 p2 p3 q0 q1 q2 q3
        have HF := Lib.hid hF
        have HG := Lib.hid hG
        obtain ⟨s, hs⟩ : ∃ s, s = funB (FunM.plain ⟨fa, fl, fr, FA, fc, fcode⟩) (FunM.plain ⟨ga, gl, gr, GA, gc, gcode⟩) := ⟨_, rfl⟩
        have Hs := Lib.hid hs
        have hRs : R = (s && sameFs ((fs.drop (k + 1)).map FunM.plain) ((gs.drop (k + 1)).map FunM.plain)) := by rw [hRk.out, hs]; rfl
        have HRs := Lib.hid hRs
        clear hc hc' hdx hdy hF hG hs hRs hRk
        go_wp2_with fail
        obtain ⟨w3, hw3⟩ : ∃ w3, w3 = (w2.alloc (.cells #[.int .i64 fa, .int .i64 fl, .int .i64 fr, .slice FA fcode.length fc] 50)).alloc (.cells #[.int .i64 ga, .int .i64 gl, .int .i64 gr, .slice GA gcode.length gc] 50) := ⟨_, rfl⟩
        rw [← hw3]
        have hb3 : Below w2.heap.size w2 w3 := by rw [hw3]; exact ((Below.refl _ _).alloc (Nat.le_refl _) _).alloc (by simp) _
        have hsm := funSame_any ⟨fa, fl, fr, FA, fc, fcode⟩ ⟨ga, gl, gr, GA, gc, gcode⟩ w3 (HF.out.below hb3) (HG.out.below hb3)
        rw [← Hs.out] at hsm
        have Hsm := Lib.hid hsm
        have HB3 := Lib.hid (HB.out.trans (hb3.mono hz2))
        clear hw3 hb3 hsm p0 p1 p2 p3 q0 q1 q2 q3
        refine Hsm.out.mono ?_
        rintro e w4 ⟨rfl, hb34⟩
        have HB4 := Lib.hid (HB3.out.trans (hb34.mono HB3.out.size))
        clear hb34 Hsm Hs
        cases s with
        | true =>
          have HRn : Hid (R = sameFs ((fs.drop (k + 1)).map FunM.plain) ((gs.drop (k + 1)).map FunM.plain)) := Lib.hid (by rw [HRs.out]; rfl)
          clear HRs
          go_wp2_with fail
          exact ⟨⟨k + 1, by omega, by go_num, HRn, HB4.out⟩, by simp [intOf]; omega⟩
        | false =>
          have HRn : Hid (R = false) := Lib.hid (by rw [HRs.out]; rfl)
          clear HRs
          go_wp2_with fail
          go_ret
          exact ⟨by rw [HRn.out]; rfl, HB4.out⟩
      · have HRt : Hid (R = true) := Lib.hid (by rw [hRk.out, List.drop_eq_nil_of_le (by omega), List.drop_eq_nil_of_le (by rw [← Hn.out]; omega)]; rfl)
        clear hRk
        go_wp2_with fail
        go_ret
        exact ⟨by rw [HRt.out]; rfl, HB.out⟩
  · have HRf : Hid (R = false) := Lib.hid (by rw [hR]; exact sameFs_len _ _ (by simpa using hn))
    have g1 : ¬ (fs.length : Int) = (gs.length : Int) := by omega
    clear hR hn
    go_enter Try.func50, Try.ntmps50
    go_wp2_with fail
    go_ret
    exact ⟨by rw [HRf.out]; rfl, Below.refl _ _⟩
set_option maxRecDepth 100000 in
theorem sameP_any (p q : PrgM) (w : World) (hp : PrgAt w p) (hq : PrgAt w q) : Calls Try.prog 25 #[p.val, q.val] w fun e w' => e = .returned (.bool (sameP p.plain q.plain)) ∧ Below w.heap.size w w' := by
  obtain ⟨R, hR⟩ : ∃ R, R = sameP p.plain q.plain := ⟨_, rfl⟩
  rw [← hR]
  obtain ⟨mem, AD, cD, data, AF, cF, fs⟩ := p
  obtain ⟨mem', AD', cD', data', AF', cF', fs'⟩ := q
  have HR := Lib.hid (show R = ((mem == mem' && data == data') && sameFs (fs.map FunM.plain) (fs'.map FunM.plain)) from hR)
  have Hp := Lib.hid hp
  have Hq := Lib.hid hq
  clear hR hp hq
  go_enter Try.func25, Try.ntmps25
  go_wp2_with (refine wpList_at 5 rfl ?_; refine wp_stop ?_)
  refine ⟨?_⟩
  obtain ⟨w1, hw1⟩ : ∃ w1, w1 = (w.alloc (.cells #[.int .i64 mem, .slice AD data.length cD, .slice AF fs.length cF] 25)).alloc (.cells #[.int .i64 mem', .slice AD' data'.length cD', .slice AF' fs'.length cF'] 25) := ⟨_, rfl⟩
  rw [← hw1]
  have hb1 : Below w.heap.size w w1 := by rw [hw1]; exact ((Below.refl _ _).alloc (Nat.le_refl _) _).alloc (by simp) _
  have hX1 : Blk w1 w.heap.size 25 #[.int .i64 mem, .slice AD data.length cD, .slice AF fs.length cF] := by rw [hw1]; exact (Blk.new w _ _).alloc _
  have hY1 : Blk w1 (w.heap.size + 1) 25 #[.int .i64 mem', .slice AD' data'.length cD', .slice AF' fs'.length cF'] := by
    rw [hw1]
    have h := Blk.new (w.alloc (.cells #[.int .i64 mem, .slice AD data.length cD, .slice AF fs.length cF] 25)) 25 #[.int .i64 mem', .slice AD' data'.length cD', .slice AF' fs'.length cF']
    rw [World.size_alloc] at h
    exact h
  have x0 : w1.cell? ⟨w.heap.size, 0, none⟩ = some (.int .i64 mem) := hX1.cell 0
  have x1 : w1.cell? ⟨w.heap.size, 1, none⟩ = some (.slice AD data.length cD) := hX1.cell 1
  have x2 : w1.cell? ⟨w.heap.size, 2, none⟩ = some (.slice AF fs.length cF) := hX1.cell 2
  have y0 : w1.cell? ⟨w.heap.size + 1, 0, none⟩ = some (.int .i64 mem') := hY1.cell 0
  have y1 : w1.cell? ⟨w.heap.size + 1, 1, none⟩ = some (.slice AD' data'.length cD') := hY1.cell 1
  have y2 : w1.cell? ⟨w.heap.size + 1, 2, none⟩ = some (.slice AF' fs'.length cF') := hY1.cell 2
  have hxl := hX1.lt
  have hyl := hY1.lt
  have Hb1 := Lib.hid hb1
  have hbe := bytesEq_any ⟨AD, cD, data⟩ ⟨AD', cD', data'⟩ w1 (Hp.out.data.below hb1) (Hq.out.data.below hb1)
  have hfe := eqFuns_any AF AF' cF cF' fs fs' w1 (Hp.out.rv.below hb1) (Hq.out.rv.below hb1) (fun f hf => (Hp.out.funs f hf).below hb1) (fun f hf => (Hq.out.funs f hf).below hb1) Hp.out.flen Hq.out.flen
  dsimp only at hbe
  obtain ⟨de, hde⟩ : ∃ de, (data == data') = de := ⟨_, rfl⟩
  rw [hde] at hbe HR
  have Hbe := Lib.hid hbe
  have Hfe := Lib.hid hfe
  clear hw1 hb1 hX1 hY1 hbe hfe hde
  by_cases hm : mem = mem'
  · subst hm
    rw [beq_self_eq_true, Bool.true_and] at HR
    go_wp2_with fail
    refine Hbe.out.mono ?_
    rintro e w2 ⟨rfl, rfl⟩
    cases de with
    | false =>
      have HRn : Hid (R = false) := Lib.hid (by rw [HR.out]; rfl)
      clear HR
      go_wp2_with fail
      go_ret
      exact ⟨by rw [HRn.out]; rfl, Hb1.out⟩
    | true =>
      have HRn : Hid (R = sameFs (fs.map FunM.plain) (fs'.map FunM.plain)) := Lib.hid (by rw [HR.out]; rfl)
      clear HR
      go_wp2_with fail
      refine Hfe.out.mono ?_
      rintro e w3 ⟨rfl, hb3⟩
      have HB3 := Lib.hid (Hb1.out.trans (hb3.mono Hb1.out.size))
      clear hb3
      go_wp2_with fail
      go_ret
      exact ⟨by rw [HRn.out]; rfl, HB3.out⟩
  · have hm2 : (mem == mem') = false := by simpa using hm
    have HRn : Hid (R = false) := Lib.hid (by rw [HR.out, hm2]; rfl)
    clear HR hm
    go_wp2_with fail
    go_ret
    exact ⟨by rw [HRn.out]; rfl, Hb1.out⟩
end Go.Proofs.Ytadnjfoinmeloaa
