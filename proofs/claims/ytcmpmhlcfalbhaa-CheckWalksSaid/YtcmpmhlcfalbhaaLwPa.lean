/- Several texts in one: LwA LwB. -/
import Derived.Test.YtcmpmhlcfalbhaaChW
namespace Go.Proofs.Ytcmpmhlcfalbhaa

section
/- The law's All: some number. -/
open Go.RowKit

set_option maxRecDepth 100000 in
set_option maxHeartbeats 1000000 in
theorem all13_any (p : PrgM) (w : World) (hp : PrgAt w p) : Calls Try.prog 16 #[p.val] w fun e w' => (∃ x, e = .returned (.int .i64 x)) ∧ Below w.heap.size w w' := by
  obtain ⟨w1, hw1⟩ : ∃ w1, w1 = w.alloc (.cells #[.int .i64 p.mem, .slice p.AD p.data.length p.cD, .slice p.AF p.fs.length p.cF] 26) := ⟨_, rfl⟩
  have hb1 : Below w.heap.size w w1 := by rw [hw1]; exact (Below.refl _ _).alloc (Nat.le_refl _) _
  have hX1 : Blk w1 w.heap.size 26 #[.int .i64 p.mem, .slice p.AD p.data.length p.cD, .slice p.AF p.fs.length p.cF] := by rw [hw1]; exact Blk.new _ _ _
  obtain ⟨gx, hgx⟩ : ∃ g, g = w.heap.size := ⟨_, rfl⟩
  rw [← hgx] at hX1
  have HX := Lib.hid hX1
  have HP := Lib.hid (hp.below hb1)
  have HB := Lib.hid hb1
  have Hw1 := Lib.hid hw1
  have Hgx := Lib.hid hgx
  have hfl : p.fs.length ≤ 2932031007402 := hp.flen
  have x2 : w1.cell? ⟨gx, 2, none⟩ = some (.slice p.AF p.fs.length p.cF) := hX1.cell 2
  have xl := hX1.lt
  clear hp hb1 hX1 hw1 hgx
  go_enter Try.func16, Try.ntmps16
  go_wp2_with fail
  rw [← Hw1.out, ← Hgx.out]
  go_loopw [3, 4] (fun n i wr => ∃ (k : Nat) (x : Int), k ≤ p.fs.length ∧ i = .int .i64 (k : Int) ∧ n = .int .i64 x ∧ w1 = wr) (fun _ i _ => p.fs.length - (intOf i).toNat)
  case atStart => exact ⟨0, 0, Nat.zero_le _, rfl, rfl, rfl⟩
  case round =>
    rename World => wr
    obtain ⟨k, x, hk, rfl, rfl, rfl⟩ := hrel
    by_cases hlt : k < p.fs.length
    · have g1 : (k : Int) < (p.fs.length : Int) := by omega
      by_cases hx : x ≤ 1048576
      · obtain ⟨g, hgf⟩ : ∃ g, p.fs[k]? = some g := ⟨_, List.getElem?_eq_getElem hlt⟩
        obtain ⟨b0, off, hA, hb, q0, q1, q2, q3, hF, hFl⟩ := HP.out.fn hgf
        rw [hA] at x2
        have HA := Lib.hid hA
        clear hA hF hgf q0 q1 q2
        go_wp2_with fail
        refine ⟨⟨k + 1, _, by omega, rfl, rfl, trivial⟩, ?_⟩
        simp [intOf]; omega
      · go_wp2_with fail
        go_ret
        exact ⟨⟨x, rfl⟩, HB.out⟩
    · obtain rfl : k = p.fs.length := by omega
      go_wp2_with fail
      go_ret
      exact ⟨⟨x, rfl⟩, HB.out⟩
end

section
/- The law's wants and ends (printed by gen_lwb.py). -/
open Go.RowKit

def wantsI (P : Prg) (f n : Nat) (i : Ins) : Int := if i.op = 5 then i.a + 1 else (takesL P f n).1
def endsI (i : Ins) : Bool := decide (i.op = 1) || decide (i.op = 2) || decide (i.op = 18)
set_option maxRecDepth 100000 in
set_option maxHeartbeats 1000000 in
theorem ends13_any (i : Ins) (w : World) : Calls Try.prog 60 #[.agg #[.int .i64 i.op, .int .i64 i.a]] w fun e w' => e = .returned (.bool (endsI i)) ∧ Below w.heap.size w w' := by
  obtain ⟨op, a⟩ := i
  unfold endsI
  dsimp only
  have hb : Below w.heap.size w (w.alloc (.cells #[.int .i64 op, .int .i64 a] 45)) := (Below.refl _ _).alloc (Nat.le_refl _) _
  by_cases h1 : op = 1
  · subst h1
    go_enter Try.func60, Try.ntmps60
    go_wp2_with fail
    go_ret
    exact ⟨rfl, hb⟩
  · by_cases h2 : op = 2
    · subst h2
      go_enter Try.func60, Try.ntmps60
      go_wp2_with fail
      go_ret
      exact ⟨rfl, hb⟩
    · have e1 : (op == 1) = false := by simpa using h1
      have e2 : (op == 2) = false := by simpa using h2
      rw [decide_eq_false h1, decide_eq_false h2]
      by_cases h3 : op = 18
      · subst h3
        go_enter Try.func60, Try.ntmps60
        go_wp2_with fail
        go_ret
        exact ⟨rfl, hb⟩
      · have e3 : (op == 18) = false := by simpa using h3
        rw [decide_eq_false h3]
        go_enter Try.func60, Try.ntmps60
        go_wp2_with fail
        go_ret
        exact ⟨rfl, hb⟩
set_option maxRecDepth 100000 in
set_option maxHeartbeats 1000000 in
theorem wants13_any (p : PrgM) (f n : Nat) (i : Ins) (w : World) (hp : PrgAt w p) (hi : p.plain.ins f n = some i) (ha : i.op = 5 → i.a ≤ 9000000000000000000) :
    Calls Try.prog 59 #[p.val, .agg #[.int .i64 (f : Int), .int .i64 (n : Int)]] w fun e w' => e = .returned (.int .i64 (wantsI p.plain f n i)) ∧ Below w.heap.size w w' := by
  obtain ⟨w1, hw1⟩ : ∃ w1, w1 = (w.alloc (.cells #[.int .i64 p.mem, .slice p.AD p.data.length p.cD, .slice p.AF p.fs.length p.cF] 26)).alloc (.cells #[.int .i64 (f : Int), .int .i64 (n : Int)] 35) := ⟨_, rfl⟩
  have hb1 : Below w.heap.size w w1 := by rw [hw1]; exact ((Below.refl _ _).alloc (Nat.le_refl _) _).alloc (by simp) _
  obtain ⟨gx, hgx⟩ : ∃ g, g = w.heap.size := ⟨_, rfl⟩
  obtain ⟨gs, hgs⟩ : ∃ g, g = w.heap.size + 1 := ⟨_, rfl⟩
  have hX : Blk w1 gx 26 #[.int .i64 p.mem, .slice p.AD p.data.length p.cD, .slice p.AF p.fs.length p.cF] := by rw [hw1, hgx]; exact (Blk.new w _ _).alloc _
  have hS : Blk w1 gs 35 #[.int .i64 (f : Int), .int .i64 (n : Int)] := by rw [hw1, hgs]; exact Blk.new2 _ _ _ _
  have hP1 := hp.below hb1
  have hi0 : (p.fs[f]?).bind (fun g => g.code[n]?) = some i := by rw [← PrgM.ins_plain]; exact hi
  obtain ⟨g, hgf⟩ : ∃ g, p.fs[f]? = some g := by
    cases hg : p.fs[f]? with
    | none => rw [hg] at hi0; cases hi0
    | some g => exact ⟨g, rfl⟩
  rw [hgf, Option.bind_some] at hi0
  obtain ⟨b0, off, hA, hb, q0, q1, q2, q3, hF, hFl⟩ := hP1.fn hgf
  obtain ⟨b1, off1, hA1, hb1', s0, s1, hiok, hNg⟩ := hF.ins hi0
  rw [hA1] at q3
  have x2 : w1.cell? ⟨gx, 2, none⟩ = some (.slice (some ⟨b0, off, none⟩) p.fs.length p.cF) := by rw [← hA]; exact hX.cell 2
  have xl := hX.lt
  have z0 : w1.cell? ⟨gs, 0, none⟩ = some (.int .i64 (f : Int)) := hS.cell 0
  have z1 : w1.cell? ⟨gs, 1, none⟩ = some (.int .i64 (n : Int)) := hS.cell 1
  have zl := hS.lt
  have g3 : (f : Int) < (p.fs.length : Int) := by omega
  have g4 : (n : Int) < (g.code.length : Int) := by omega
  have HX := Lib.hid hX
  have HS := Lib.hid hS
  have HP1 := Lib.hid hP1
  have HB1 := Lib.hid hb1
  have Hw1 := Lib.hid hw1
  have Hg := Lib.hid (show gx = w.heap.size ∧ gs = w.heap.size + 1 from ⟨hgx, hgs⟩)
  obtain ⟨op, a⟩ := i
  dsimp only at s0 s1 ha
  have Hok := Lib.hid hiok
  clear hp hi hb1 hX hS hP1 hi0 hgf hA hA1 q0 q1 q2 hF hiok hw1 hgx hgs
  obtain ⟨R, hR⟩ : ∃ R, R = wantsI p.plain f n ⟨op, a⟩ := ⟨_, rfl⟩
  rw [← hR]
  unfold wantsI at hR
  dsimp only at hR
  have HR := Lib.hid hR
  clear hR
  go_enter Try.func59, Try.ntmps59
  go_upto_region 1 with (fail)
  rw [← Hw1.out, ← Hg.out.2, ← Hg.out.1]
  have hbb := hb
  obtain ⟨SC, hSCd⟩ : ∃ S : World → Prop, S = fun w' => (w'.cell? ⟨gx, 2, none⟩ = some (.slice (some ⟨b0, off, none⟩) p.fs.length p.cF) ∧ gx < w'.heap.size) ∧ (w'.cell? ⟨gs, 0, none⟩ = some (.int .i64 (f : Int)) ∧ w'.cell? ⟨gs, 1, none⟩ = some (.int .i64 (n : Int)) ∧ gs < w'.heap.size) ∧ (w'.cell? ⟨b0, off + f * 4 + 3, none⟩ = some (.slice (some ⟨b1, off1, none⟩) g.code.length g.c) ∧ b0 < w'.heap.size) ∧ (w'.cell? ⟨b1, off1 + n * 2, none⟩ = some (.int .i64 op) ∧ w'.cell? ⟨b1, off1 + n * 2 + 1, none⟩ = some (.int .i64 a) ∧ b1 < w'.heap.size) := ⟨_, rfl⟩
  have hSC : SC w1.drew := by rw [hSCd]; exact ⟨⟨x2, xl⟩, ⟨z0, z1, zl⟩, ⟨q3, hb⟩, ⟨s0, s1, hb1'⟩⟩
  have HSC := Lib.hid (show SC w1.drew from hSC)
  have HSd := Lib.hid hSCd
  clear hSC hSCd
  refine region_heldT 13 SC (by kernel_rfl) (by decide) ?_
  refine HeadW.takeA 0 (v := .pointer (some ⟨gx, 2, none⟩)) rfl (by kernel_rfl) rfl (by decide) (fun _ _ _ hL => seqB_ready hL.1) (by kernel_rfl) (by kernel_rfl) (fun _ _ _ h => h) HSC.out (.inl ⟨by kernel_rfl, by intro w hSw; rw [HSd.out] at hSw; obtain ⟨⟨e0, l0⟩, ⟨e1, e2, l1⟩, ⟨e3, l2⟩, ⟨e4, e5, l3⟩⟩ := hSw; go_simp⟩) ?_
  simp only [Act.put, List.setIfInBounds_toArray]
  refine HeadW.takeA 1 (v := .slice (some ⟨b0, off, none⟩) p.fs.length p.cF) rfl (by kernel_rfl) rfl (by decide) (fun _ _ _ hL => seqB_ready hL.1) (by kernel_rfl) (by kernel_rfl) (fun _ _ _ h => h) HSC.out (.inl ⟨by kernel_rfl, by intro w hSw; rw [HSd.out] at hSw; obtain ⟨⟨e0, l0⟩, ⟨e1, e2, l1⟩, ⟨e3, l2⟩, ⟨e4, e5, l3⟩⟩ := hSw; go_simp⟩) ?_
  simp only [Act.put]
  refine HeadW.takeA 2 (v := .pointer (some ⟨gs, 0, none⟩)) rfl (by kernel_rfl) rfl (by decide) (fun _ _ _ hL => seqB_ready hL.1) (by kernel_rfl) (by kernel_rfl) (fun _ _ _ h => h) HSC.out (.inl ⟨by kernel_rfl, by intro w hSw; rw [HSd.out] at hSw; obtain ⟨⟨e0, l0⟩, ⟨e1, e2, l1⟩, ⟨e3, l2⟩, ⟨e4, e5, l3⟩⟩ := hSw; go_simp⟩) ?_
  simp only [Act.put]
  refine HeadW.takeA 3 (v := .int .i64 (f : Int)) rfl (by kernel_rfl) rfl (by decide) (fun _ _ _ hL => seqB_ready hL.1) (by kernel_rfl) (by kernel_rfl) (fun _ _ _ h => h) HSC.out (.inl ⟨by kernel_rfl, by intro w hSw; rw [HSd.out] at hSw; obtain ⟨⟨e0, l0⟩, ⟨e1, e2, l1⟩, ⟨e3, l2⟩, ⟨e4, e5, l3⟩⟩ := hSw; go_simp⟩) ?_
  simp only [Act.put]
  refine HeadW.takeA 4 (v := .pointer (some ⟨b0, off + f * 4, none⟩)) rfl (by kernel_rfl) rfl (by decide) (fun _ _ _ hL => seqB_ready hL.1) (by kernel_rfl) (by kernel_rfl) (fun _ _ _ h => h) HSC.out (.inl ⟨by kernel_rfl, by intro w hSw; rw [HSd.out] at hSw; obtain ⟨⟨e0, l0⟩, ⟨e1, e2, l1⟩, ⟨e3, l2⟩, ⟨e4, e5, l3⟩⟩ := hSw; go_simp⟩) ?_
  simp only [Act.put]
  refine HeadW.takeA 5 (v := .pointer (some ⟨b0, off + f * 4 + 3, none⟩)) rfl (by kernel_rfl) rfl (by decide) (fun _ _ _ hL => seqB_ready hL.1) (by kernel_rfl) (by kernel_rfl) (fun _ _ _ h => h) HSC.out (.inl ⟨by kernel_rfl, by intro w hSw; rw [HSd.out] at hSw; obtain ⟨⟨e0, l0⟩, ⟨e1, e2, l1⟩, ⟨e3, l2⟩, ⟨e4, e5, l3⟩⟩ := hSw; go_simp⟩) ?_
  simp only [Act.put]
  refine HeadW.takeA 6 (v := .slice (some ⟨b1, off1, none⟩) g.code.length g.c) rfl (by kernel_rfl) rfl (by decide) (fun _ _ _ hL => seqB_ready hL.1) (by kernel_rfl) (by kernel_rfl) (fun _ _ _ h => h) HSC.out (.inl ⟨by kernel_rfl, by intro w hSw; rw [HSd.out] at hSw; obtain ⟨⟨e0, l0⟩, ⟨e1, e2, l1⟩, ⟨e3, l2⟩, ⟨e4, e5, l3⟩⟩ := hSw; go_simp⟩) ?_
  simp only [Act.put]
  refine HeadW.takeA 7 (v := .pointer (some ⟨gs, 1, none⟩)) rfl (by kernel_rfl) rfl (by decide) (fun _ _ _ hL => seqB_ready hL.1) (by kernel_rfl) (by kernel_rfl) (fun _ _ _ h => h) HSC.out (.inl ⟨by kernel_rfl, by intro w hSw; rw [HSd.out] at hSw; obtain ⟨⟨e0, l0⟩, ⟨e1, e2, l1⟩, ⟨e3, l2⟩, ⟨e4, e5, l3⟩⟩ := hSw; go_simp⟩) ?_
  simp only [Act.put]
  refine HeadW.takeA 8 (v := .int .i64 (n : Int)) rfl (by kernel_rfl) rfl (by decide) (fun _ _ _ hL => seqB_ready hL.1) (by kernel_rfl) (by kernel_rfl) (fun _ _ _ h => h) HSC.out (.inl ⟨by kernel_rfl, by intro w hSw; rw [HSd.out] at hSw; obtain ⟨⟨e0, l0⟩, ⟨e1, e2, l1⟩, ⟨e3, l2⟩, ⟨e4, e5, l3⟩⟩ := hSw; go_simp⟩) ?_
  simp only [Act.put]
  refine HeadW.takeA 9 (v := .pointer (some ⟨b1, off1 + n * 2, none⟩)) rfl (by kernel_rfl) rfl (by decide) (fun _ _ _ hL => seqB_ready hL.1) (by kernel_rfl) (by kernel_rfl) (fun _ _ _ h => h) HSC.out (.inl ⟨by kernel_rfl, by intro w hSw; rw [HSd.out] at hSw; obtain ⟨⟨e0, l0⟩, ⟨e1, e2, l1⟩, ⟨e3, l2⟩, ⟨e4, e5, l3⟩⟩ := hSw; go_simp⟩) ?_
  simp only [Act.put]
  refine HeadW.takeA 10 (v := .agg #[.int .i64 op, .int .i64 a]) rfl (by kernel_rfl) rfl (by decide) (fun _ _ _ hL => seqB_ready hL.1) (by kernel_rfl) (by kernel_rfl) (fun _ _ _ h => h) HSC.out (.inl ⟨by kernel_rfl, by intro w hSw; rw [HSd.out] at hSw; obtain ⟨⟨e0, l0⟩, ⟨e1, e2, l1⟩, ⟨e3, l2⟩, ⟨e4, e5, l3⟩⟩ := hSw; go_simp⟩) ?_
  simp only [Act.put]
  have hSC1 : SC (w1.drew.alloc (.cells #[.int .i64 0, .int .i64 0] 45)) := by
    rw [HSd.out]
    have hb : Below w1.heap.size w1 (w1.drew.alloc (.cells #[.int .i64 0, .int .i64 0] 45)) := (Below.refl _ w1).drew.alloc (Nat.le_refl _) _
    obtain ⟨hc, -⟩ := bcell hb
    have hz := hb.size
    exact ⟨⟨(hc _ _ xl).trans x2, by omega⟩, ⟨(hc _ _ zl).trans z0, (hc _ _ zl).trans z1, by omega⟩, ⟨(hc _ _ hbb).trans q3, by omega⟩, ⟨(hc _ _ hb1').trans s0, (hc _ _ hb1').trans s1, by omega⟩⟩
  refine headW_one 11 rfl (by decide) (by kernel_rfl) (by kernel_rfl) fun K hK => ?_
  go_simp
  refine hK.out _ _ hSC1 (fun hHeld => ?_)
  clear hK K hHeld
  have hSC2 : SC (w1.drew.alloc (.cells #[.int .i64 op, .int .i64 a] 45)) := by
    rw [HSd.out]
    have hb : Below w1.heap.size w1 (w1.drew.alloc (.cells #[.int .i64 op, .int .i64 a] 45)) := (Below.refl _ w1).drew.alloc (Nat.le_refl _) _
    obtain ⟨hc, -⟩ := bcell hb
    have hz := hb.size
    exact ⟨⟨(hc _ _ xl).trans x2, by omega⟩, ⟨(hc _ _ zl).trans z0, (hc _ _ zl).trans z1, by omega⟩, ⟨(hc _ _ hbb).trans q3, by omega⟩, ⟨(hc _ _ hb1').trans s0, (hc _ _ hb1').trans s1, by omega⟩⟩
  refine headW_one 12 rfl (by decide) (by kernel_rfl) (by kernel_rfl) fun K hK => ?_
  go_simp
  refine hK.out _ _ hSC2 (fun hHeld => ?_)
  clear hK K hHeld
  refine fun _ => ⟨by kernel_rfl, ?_⟩
  simp only [List.drop_succ_cons, List.drop_zero]
  clear HSC HSd hSC1 hSC2 hbb
  clear SC
  obtain ⟨w2, hw2⟩ : ∃ w2, w2 = (w1.alloc (.cells #[.int .i64 op, .int .i64 a] 45)).drew := ⟨_, rfl⟩
  have hb2 : Below w1.heap.size w1 w2 := by rw [hw2]; exact ((Below.refl _ _).alloc (Nat.le_refl _) _).drew
  have Hb2 := Lib.hid (HB1.out.trans (hb2.mono HB1.out.size))
  by_cases h5 : op = 5
  · subst h5
    have hRe := HR.out
    rw [if_pos rfl] at hRe
    have HRe := Lib.hid hRe
    clear hRe
    have hwr : IntKind.i64.wrap (a + 1) = a + 1 := by rw [IntKind.wrap_i64]; have h1 := Hok.out.a1; have h2 := ha rfl; dsimp only at h1; omega
    clear hw2
    go_wp2_with fail
    go_ret
    exact ⟨by rw [HRe.out]; try rfl, (HB1.out.alloc HB1.out.size _).drew⟩
  · have e5 : (op == 5) = false := by simpa using h5
    have hRe := HR.out
    rw [if_neg h5] at hRe
    have HRe := Lib.hid hRe
    clear hRe
    have HT := Lib.hid (takes_any p f n w2 (HP1.out.below hb2))
    have hX2 := HX.out.below hb2 HX.out.lt
    have hS2 := HS.out.below hb2 HS.out.lt
    have y0 : w2.cell? ⟨gx, 0, none⟩ = some (.int .i64 p.mem) := hX2.cell 0
    have y1 : w2.cell? ⟨gx, 1, none⟩ = some (.slice p.AD p.data.length p.cD) := hX2.cell 1
    have y2 : w2.cell? ⟨gx, 2, none⟩ = some (.slice p.AF p.fs.length p.cF) := hX2.cell 2
    have yl := hX2.lt
    have u0 : w2.cell? ⟨gs, 0, none⟩ = some (.int .i64 (f : Int)) := hS2.cell 0
    have u1 : w2.cell? ⟨gs, 1, none⟩ = some (.int .i64 (n : Int)) := hS2.cell 1
    have ul := hS2.lt
    have Hw2 := Lib.hid hw2
    clear hw2 hb2 hX2 hS2
    go_upto_region 4 with (fail)
    rw [← Hw2.out]
    clear Hw2 x2 xl z0 z1 zl s0 s1 q3 hb hb1'
    go_wp2_with fail
    refine HT.out.mono ?_
    rintro e w3 ⟨rfl, hb3⟩
    have HB3 := Lib.hid (Hb2.out.trans (hb3.mono Hb2.out.size))
    clear hb3
    obtain ⟨R2, hR2⟩ : ∃ x, x = takesL p.plain f n := ⟨_, rfl⟩
    rw [← hR2]
    have HR2 := Lib.hid hR2
    clear hR2
    go_wp2_with fail
    go_ret
    exact ⟨by rw [HRe.out, ← HR2.out]; try rfl, HB3.out⟩
end
end Go.Proofs.Ytcmpmhlcfalbhaa
