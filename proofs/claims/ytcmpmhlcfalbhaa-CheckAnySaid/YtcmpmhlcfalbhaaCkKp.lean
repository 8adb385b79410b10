/- The law's Kept (printed by gen_ckkp.py). -/
import Derived.Test.YtcmpmhlcfalbhaaCkLd
import Derived.Test.YtcmpmhlcfalbhaaPrgRs
namespace Go.Proofs.Ytcmpmhlcfalbhaa
open Go.RowKit

theorem slice13uB (g n c : Nat) (w' : World) (h : n + 1 ≤ c) (hc : n ≤ 140737488351232) : (Instr.slice 23 (.slice (some ⟨g, 0, none⟩) n c) none (some (.int .i64 ((n : Int) + 1))) none).run Try.prog w' = .ok (.slice (some ⟨g, 0, none⟩) (n + 1) c) w' := by
  rw [show ((n : Int) + 1) = ((n + 1 : Nat) : Int) from by omega, run_slice_h w' _ _ _ _ (by kernel_rfl) _ _ (by omega) (by omega), show (sizeOf (Try.prog.elem 23)).run Try.prog w' = .ok 1 w' from by kernel_rfl, Result.andThen_ok]
  unfold sliced
  rw [Int.toNat_natCast]
  simp [Addr.add]
theorem slice13uF (g n c : Nat) (w' : World) (h : n + 1 ≤ c) (hc : n ≤ 140737488351232) : (Instr.slice 24 (.slice (some ⟨g, 0, none⟩) n c) none (some (.int .i64 ((n : Int) + 1))) none).run Try.prog w' = .ok (.slice (some ⟨g, 0, none⟩) (n + 1) c) w' := by
  rw [show ((n : Int) + 1) = ((n + 1 : Nat) : Int) from by omega, run_slice_h w' _ _ _ _ (by kernel_rfl) _ _ (by omega) (by omega), show (sizeOf (Try.prog.elem 24)).run Try.prog w' = .ok 4 w' from by kernel_rfl, Result.andThen_ok]
  unfold sliced
  rw [Int.toNat_natCast]
  simp [Addr.add]
theorem slice13uI (g n c : Nat) (w' : World) (h : n + 1 ≤ c) (hc : n ≤ 140737488351232) : (Instr.slice 41 (.slice (some ⟨g, 0, none⟩) n c) none (some (.int .i64 ((n : Int) + 1))) none).run Try.prog w' = .ok (.slice (some ⟨g, 0, none⟩) (n + 1) c) w' := by
  rw [show ((n : Int) + 1) = ((n + 1 : Nat) : Int) from by omega, run_slice_h w' _ _ _ _ (by kernel_rfl) _ _ (by omega) (by omega), show (sizeOf (Try.prog.elem 41)).run Try.prog w' = .ok 2 w' from by kernel_rfl, Result.andThen_ok]
  unfold sliced
  rw [Int.toNat_natCast]
  simp [Addr.add]
def AnyOwn (w : World) (base : Nat) (e : TypeId) (size : Nat) (A : Option Addr) (n c : Nat) : Prop := ∃ vs, Own w base e size A n c vs
theorem only_set1 (w : World) (g j : Nat) (u : Value) : Only (fun b => b = g) w (w.setCell ⟨g, j, none⟩ u) := Only.setCell (S := fun b => b = g) (Only.refl _ _) (p := ⟨g, j, none⟩) (.inl rfl) _
theorem AnyOwn.set {w : World} {base size n c : Nat} {e : TypeId} {A : Option Addr} (h : AnyOwn w base e size A n c) (g j : Nat) (u : Value) : AnyOwn (w.setCell ⟨g, j, none⟩ u) base e size A n c := by
  obtain ⟨vs, h⟩ := h
  by_cases hA : A = some ⟨g, 0, none⟩
  · subst hA
    exact ⟨_, own_set h j u⟩
  · refine ⟨vs, Own.only (S := fun b => b = g) h (only_set1 w g j u) fun b o e e2 => hA ?_⟩
    have h0 := (Own.lt h b o e).2.2
    rw [e, e2, h0]
structure SpoilK (w : World) (base m g8 cF n g5 cD : Nat) (hs' : List FunM) (k : Nat) (fsx : List FunM) : Prop where
  funs : OwnF7 w base m g8 cF fsx
  len : fsx.length = m
  rest : ∀ j, k ≤ j → fsx[j]? = hs'[j]?
  code : ∀ f ∈ hs', AnyOwn w base 45 2 f.A f.code.length f.c
  data : AnyOwn w base 5 1 (some ⟨g5, 0, none⟩) n cD
theorem SpoilK.code_set {w : World} {base m g8 cF n g5 cD k : Nat} {hs' fsx : List FunM} (h : SpoilK w base m g8 cF n g5 cD hs' k fsx) {f : FunM} (hf : f ∈ hs') {g9 : Nat} (hA : f.A = some ⟨g9, 0, none⟩) (j : Nat) (u : Value) : SpoilK (w.setCell ⟨g9, j, none⟩ u) base m g8 cF n g5 cD hs' k fsx := by
  refine ⟨?_, h.len, h.rest, fun f hf => (h.code f hf).set _ _ _, h.data.set _ _ _⟩
  obtain ⟨vs, hv⟩ := h.code f hf
  rw [hA] at hv
  exact Own.only h.funs (only_set1 w g9 j u) fun b o e e2 => own_ne hv h.funs (by decide) g9 rfl (by rw [e, ← e2]; rfl)
theorem SpoilK.fun_set {w : World} {base m g8 cF n g5 cD k : Nat} {hs' fsx : List FunM} (h : SpoilK w base m g8 cF n g5 cD hs' k fsx) (hk : k < m) : SpoilK ((((w.setCell ⟨g8, k * 4, none⟩ (.int .i64 (-5))).setCell ⟨g8, k * 4 + 1, none⟩ (.int .i64 0)).setCell ⟨g8, k * 4 + 2, none⟩ (.int .i64 0)).setCell ⟨g8, k * 4 + 3, none⟩ (.slice none 0 0)) base m g8 cF n g5 cD hs' (k + 1) (fsx.set k ⟨-5, 0, 0, none, 0, []⟩) := by
  have hkl : k < fsx.length := by rw [h.len]; exact hk
  refine ⟨?_, by rw [List.length_set]; exact h.len, fun j hj => ?_, fun f hf => ((((h.code f hf).set _ _ _).set _ _ _).set _ _ _).set _ _ _, (((h.data.set _ _ _).set _ _ _).set _ _ _).set _ _ _⟩
  · have h4 := own_set (own_set (own_set (own_set h.funs (k * 4) (.int .i64 (-5))) (k * 4 + 1) (.int .i64 0)) (k * 4 + 2) (.int .i64 0)) (k * 4 + 3) (.slice none 0 0)
    have hs := funCells_set (fsx ++ [markF7]) k ⟨-5, 0, 0, none, 0, []⟩ (by rw [List.length_append]; omega)
    dsimp only [List.length_nil] at hs
    rw [hs, List.set_append_left _ _ hkl] at h4
    exact h4
  · rw [List.getElem?_set_ne (by omega)]
    exact h.rest j (by omega)
set_option maxRecDepth 100000 in
set_option maxHeartbeats 20000000 in
theorem kept13_any (p q : PrgM) (base : Nat) (w : World) (hp : PrgAt w p) (hsm : q.plain = p.plain) (hL : Lent13 w base q) (hbw : base ≤ w.heap.size) : Calls Try.prog 20 #[q.val, p.val] w fun e w' => e = .returned (.bool true) ∧ Below base w w' := by
  have hpok := hp.ok
  rw [← hsm] at hpok
  have hs := fun w1 (h1 : PrgAt w1 q) (h2 : PrgAt w1 p) => refSameP_any q p w1 h1 h2
  rw [(sameP_iff _ _).2 hsm] at hs
  have hq : PrgAt w q := hL.mine.at_ hpok
  obtain ⟨mem0, AD0, cD0, data0, AF0, cF0, fs⟩ := p
  obtain ⟨mem, AD, cD, data, AF, cF, hs'⟩ := q
  injection hsm with e1 e2 e3
  dsimp only at e1 e2 e3
  subst e1
  subst e2
  have hdl : data.length ≤ 140737488351232 := hp.dlen
  have hfl : fs.length ≤ 2932031007402 := hp.flen
  obtain ⟨n, hn⟩ : ∃ n, n = data.length := ⟨_, rfl⟩
  obtain ⟨m, hm⟩ : ∃ m, m = fs.length := ⟨_, rfl⟩
  have hhs : hs'.length = m := by have := congrArg List.length e3; rw [List.length_map, List.length_map] at this; rw [this]; exact hm.symm
  obtain ⟨hD, hF, hR⟩ := hL
  dsimp only at hD hF hR
  unfold OwnB at hD
  rw [List.map_append, ← hn] at hD
  rw [hhs] at hF hR
  obtain ⟨g5, rfl, hg5a, hg5b⟩ := own_some hD (by omega)
  obtain ⟨g8, rfl, hg8a, hg8b⟩ := own_some hF (by omega)
  have hdn : n ≤ 140737488351232 := by omega
  have hfm : m ≤ 2932031007402 := by omega
  have hcd := own_cap hD
  have hcf := own_cap hF
  have hqv : (⟨mem, some ⟨g5, 0, none⟩, cD, data, some ⟨g8, 0, none⟩, cF, hs'⟩ : PrgM).val = .agg #[.int .i64 mem, .slice (some ⟨g5, 0, none⟩) n cD, .slice (some ⟨g8, 0, none⟩) m cF] := by dsimp only [PrgM.val]; rw [hhs, ← hn]
  have hpv : (⟨mem, AD0, cD0, data, AF0, cF0, fs⟩ : PrgM).val = .agg #[.int .i64 mem, .slice AD0 n cD0, .slice AF0 m cF0] := by dsimp only [PrgM.val]; rw [← hn, ← hm]
  rw [hqv, hpv]
  have HP := Lib.hid hp
  have HQ := Lib.hid hq
  have HS0 := Lib.hid hs
  have HV := Lib.hid (And.intro hqv hpv)
  have HN := Lib.hid hn
  have HM := Lib.hid hm
  have HR2l := Lib.hid (show ∀ f ∈ hs', ∀ b, f.A.map (·.block) = some b → b < w.heap.size from fun f hf b e => (hR.lt f hf b e).2)
  have HE := Lib.hid (show hs'.map FunM.plain = fs.map FunM.plain ∧ hs'.length = m from ⟨e3, hhs⟩)
  obtain ⟨w1, hw1⟩ : ∃ w1, w1 = (w.alloc (.cells #[.int .i64 mem, .slice (some ⟨g5, 0, none⟩) n cD, .slice (some ⟨g8, 0, none⟩) m cF] 26)).alloc (.cells #[.int .i64 mem, .slice AD0 n cD0, .slice AF0 m cF0] 26) := ⟨_, rfl⟩
  have hb1 : Below w.heap.size w w1 := by rw [hw1]; exact ((Below.refl _ _).alloc (Nat.le_refl _) _).alloc (by simp) _
  have hz1 : w1.heap.size = w.heap.size + 2 := by rw [hw1]; simp
  have hX1 : Blk w1 w.heap.size 26 #[.int .i64 mem, .slice (some ⟨g5, 0, none⟩) n cD, .slice (some ⟨g8, 0, none⟩) m cF] := by rw [hw1]; exact (Blk.new w _ _).alloc _
  have hY1 : Blk w1 (w.heap.size + 1) 26 #[.int .i64 mem, .slice AD0 n cD0, .slice AF0 m cF0] := by
    rw [hw1]
    have h := Blk.new (w.alloc (.cells #[.int .i64 mem, .slice (some ⟨g5, 0, none⟩) n cD, .slice (some ⟨g8, 0, none⟩) m cF] 26)) 26 #[.int .i64 mem, .slice AD0 n cD0, .slice AF0 m cF0]
    rw [World.size_alloc] at h
    exact h
  obtain ⟨gl, hgl⟩ : ∃ g, g = w.heap.size := ⟨_, rfl⟩
  obtain ⟨gp, hgp⟩ : ∃ g, g = w.heap.size + 1 := ⟨_, rfl⟩
  rw [← hgl] at hX1 HR2l
  rw [← hgp] at hY1
  have HG := Lib.hid (show gl = w.heap.size ∧ gp = w.heap.size + 1 ∧ w1.heap.size = w.heap.size + 2 ∧ base ≤ w.heap.size ∧ g5 < w.heap.size ∧ g8 < w.heap.size ∧ base ≤ g5 ∧ base ≤ g8 from ⟨hgl, hgp, hz1, hbw, hg5b, hg8b, hg5a, hg8a⟩)
  have hSm := HS0.out w1.drew (HQ.out.below (hb1.trans ((Below.refl _ w1).drew.mono hb1.size))) (HP.out.below (hb1.trans ((Below.refl _ w1).drew.mono hb1.size)))
  rw [hqv, hpv] at hSm
  have HSm := Lib.hid hSm
  have hD1 : OwnD w1 base n g5 cD data := Own.below hD hb1 (Nat.le_refl _)
  have hF1 : OwnF7 w1 base m g8 cF hs' := Own.below hF hb1 (Nat.le_refl _)
  have hR1 : RowK w1 base m hs' := hR.only (S := fun _ => False) (Only.of_fresh hb1) (fun _ _ _ _ h => h)
  have x0 := hX1.cell 0
  have x1 : w1.cell? ⟨gl, 1, none⟩ = some (.slice (some ⟨g5, 0, none⟩) n cD) := hX1.cell 1
  have x2 : w1.cell? ⟨gl, 2, none⟩ = some (.slice (some ⟨g8, 0, none⟩) m cF) := hX1.cell 2
  have y0 := hY1.cell 0
  have y1 : w1.cell? ⟨gp, 1, none⟩ = some (.slice AD0 n cD0) := hY1.cell 1
  have y2 : w1.cell? ⟨gp, 2, none⟩ = some (.slice AF0 m cF0) := hY1.cell 2
  have xl := hX1.lt
  have yl := hY1.lt
  have d5 : w1.cell? ⟨g5, n, none⟩ = some (.int .u8 169) := by
    have h := (own_at hD1 n (by rw [List.length_append, List.length_map, ← hn]; simp)).1
    rw [h, List.getElem_append_right (by rw [List.length_map, ← hn]; exact Nat.le_refl _)]
    simp [hn]
  have f8 : w1.cell? ⟨g8, m * 4, none⟩ = some (.int .i64 (-7)) := by
    have h := (own_at hF1 (m * 4) (by rw [funCells_len, List.length_append, hhs, List.length_singleton]; omega)).1
    have h2 := funCells_get (hs' ++ [markF7]) m 0 (by rw [List.length_append, hhs, List.length_singleton]; omega) (by omega)
    rw [Nat.add_zero] at h2
    rw [h, ← List.getElem?_eq_getElem, h2, List.getElem_append_right (by omega)]
    simp [hhs, funCells, markF7]
  have l5 : g5 < w1.heap.size := by omega
  have l8 : g8 < w1.heap.size := by omega
  have HX1 := Lib.hid hX1
  have HY1 := Lib.hid hY1
  have HD1 := Lib.hid hD1
  have HF1 := Lib.hid hF1
  have HR1 := Lib.hid hR1
  have Hb1 := Lib.hid hb1
  have Hw1 := Lib.hid hw1
  have g1 : (n : Int) < ((n + 1 : Nat) : Int) := by omega
  have hwn : IntKind.i64.wrap ((n : Int) + 1) = (n : Int) + 1 := by rw [IntKind.wrap_i64]; omega
  have hwm : IntKind.i64.wrap ((m : Int) + 1) = (m : Int) + 1 := by rw [IntKind.wrap_i64]; omega
  have g2 : (m : Int) < ((m + 1 : Nat) : Int) := by omega
  clear hX1 hY1 hD1 hF1 hR1 hb1 hw1 hSm hz1 hgl hgp hn hm hhs hp hq hs hqv hpv hD hF hR hpok e3 hdl hfl hbw hg5a hg5b hg8a hg8b
  go_enter Try.func20, Try.ntmps20
  go_upto_region 1 with (fail)
  rw [← HG.out.2.1, ← Hw1.out, ← HG.out.1]
  have x0' : w1.cell? ⟨gl, 0, none⟩ = some (.int .i64 mem) := x0
  have y0' : w1.cell? ⟨gp, 0, none⟩ = some (.int .i64 mem) := y0
  clear x0 y0
  obtain ⟨SC, hSCd⟩ : ∃ S : World → Prop, S = (fun w' => (w'.cell? ⟨gl, 0, none⟩ = some (.int .i64 mem) ∧ gl < w'.heap.size) ∧ (w'.cell? ⟨gl, 1, none⟩ = some (.slice (some ⟨g5, 0, none⟩) n cD) ∧ gl < w'.heap.size) ∧ (w'.cell? ⟨gl, 2, none⟩ = some (.slice (some ⟨g8, 0, none⟩) m cF) ∧ gl < w'.heap.size) ∧ (w'.cell? ⟨gp, 0, none⟩ = some (.int .i64 mem) ∧ gp < w'.heap.size) ∧ (w'.cell? ⟨gp, 1, none⟩ = some (.slice AD0 n cD0) ∧ gp < w'.heap.size) ∧ (w'.cell? ⟨gp, 2, none⟩ = some (.slice AF0 m cF0) ∧ gp < w'.heap.size) ∧ (w'.cell? ⟨g5, n, none⟩ = some (.int .u8 169) ∧ g5 < w'.heap.size) ∧ (w'.cell? ⟨g8, m * 4, none⟩ = some (.int .i64 (-7)) ∧ g8 < w'.heap.size)) := ⟨_, rfl⟩
  have hSC : SC w1.drew := by rw [hSCd]; exact ⟨⟨x0', xl⟩, ⟨x1, xl⟩, ⟨x2, xl⟩, ⟨y0', yl⟩, ⟨y1, yl⟩, ⟨y2, yl⟩, ⟨d5, l5⟩, ⟨f8, l8⟩⟩
  have HSC := Lib.hid (show SC w1.drew from hSC)
  have HSd := Lib.hid hSCd
  clear hSC hSCd
  refine region_heldT 34 SC (by kernel_rfl) (by decide) ?_
  refine HeadW.take 0 (v := .agg #[.int .i64 mem, .slice (some ⟨g5, 0, none⟩) n cD, .slice (some ⟨g8, 0, none⟩) m cF]) rfl (by kernel_rfl) (by kernel_rfl) (by kernel_rfl) (by decide) (by decide) (fun _ _ _ hL => seqB_ready hL.1) (by kernel_rfl) (by kernel_rfl) (fun _ _ _ h => h) HSC.out (.inl ⟨by kernel_rfl, by intro w hSw; rw [HSd.out] at hSw; obtain ⟨⟨e0, k0⟩, ⟨e1, k1⟩, ⟨e2, k2⟩, ⟨e3, k3⟩, ⟨e4, k4⟩, ⟨e5, k5⟩, ⟨e6, k6⟩, ⟨e7, k7⟩⟩ := hSw; go_simp⟩) ?_
  simp only [Act.put, List.setIfInBounds_toArray]
  refine HeadW.take 1 (v := .agg #[.int .i64 mem, .slice AD0 n cD0, .slice AF0 m cF0]) rfl (by kernel_rfl) (by kernel_rfl) (by kernel_rfl) (by decide) (by decide) (fun _ _ _ hL => seqB_ready hL.1) (by kernel_rfl) (by kernel_rfl) (fun _ _ _ h => h) HSC.out (.inl ⟨by kernel_rfl, by intro w hSw; rw [HSd.out] at hSw; obtain ⟨⟨e0, k0⟩, ⟨e1, k1⟩, ⟨e2, k2⟩, ⟨e3, k3⟩, ⟨e4, k4⟩, ⟨e5, k5⟩, ⟨e6, k6⟩, ⟨e7, k7⟩⟩ := hSw; go_simp⟩) ?_
  simp only [Act.put]
  refine headW_one 2 rfl (by decide) (by kernel_rfl) (by kernel_rfl) fun K hK => ?_
  go_simp
  refine HSm.out.mono ?_
  rintro e w2 ⟨rfl, hb2⟩
  have hb12 : Below w1.heap.size w1 w2 := (Below.refl _ w1).drew.trans hb2
  have hSC2 : SC w2 := by
    have h := HSC.out
    rw [HSd.out] at h ⊢
    obtain ⟨⟨e0, k0⟩, ⟨e1, k1⟩, ⟨e2, k2⟩, ⟨e3, k3⟩, ⟨e4, k4⟩, ⟨e5, k5⟩, ⟨e6, k6⟩, ⟨e7, k7⟩⟩ := h
    obtain ⟨hc, -⟩ := bcell hb12
    have hz := hb12.size
    exact ⟨⟨(hc _ _ k0).trans e0, Nat.lt_of_lt_of_le k0 hz⟩, ⟨(hc _ _ k1).trans e1, Nat.lt_of_lt_of_le k1 hz⟩, ⟨(hc _ _ k2).trans e2, Nat.lt_of_lt_of_le k2 hz⟩, ⟨(hc _ _ k3).trans e3, Nat.lt_of_lt_of_le k3 hz⟩, ⟨(hc _ _ k4).trans e4, Nat.lt_of_lt_of_le k4 hz⟩, ⟨(hc _ _ k5).trans e5, Nat.lt_of_lt_of_le k5 hz⟩, ⟨(hc _ _ k6).trans e6, Nat.lt_of_lt_of_le k6 hz⟩, ⟨(hc _ _ k7).trans e7, Nat.lt_of_lt_of_le k7 hz⟩⟩
  refine hK.out _ _ hSC2 (fun hHeld => ?_)
  clear hK K hHeld
  have Hb12 := Lib.hid hb12
  have HSC2 := Lib.hid hSC2
  clear hb2 hb12 HSC hSC2 x0' x1 x2 y0' y1 y2 d5 f8 xl yl l5 l8
  have HSC := HSC2
  refine HeadW.take 3 (v := .bool true) rfl (by kernel_rfl) (by kernel_rfl) (by kernel_rfl) (by decide) (by decide) (fun _ _ _ hL => seqB_ready hL.1) (by kernel_rfl) (by kernel_rfl) (fun _ _ _ h => h) HSC.out (.inl ⟨by kernel_rfl, by intro w hSw; rw [HSd.out] at hSw; obtain ⟨⟨e0, k0⟩, ⟨e1, k1⟩, ⟨e2, k2⟩, ⟨e3, k3⟩, ⟨e4, k4⟩, ⟨e5, k5⟩, ⟨e6, k6⟩, ⟨e7, k7⟩⟩ := hSw; go_simp⟩) ?_
  simp only [Act.put]
  refine HeadW.take 4 (v := .pointer (some ⟨gl, 1, none⟩)) rfl (by kernel_rfl) (by kernel_rfl) (by kernel_rfl) (by decide) (by decide) (fun _ _ _ hL => seqB_ready hL.1) (by kernel_rfl) (by kernel_rfl) (fun _ _ _ h => h) HSC.out (.inl ⟨by kernel_rfl, by intro w hSw; rw [HSd.out] at hSw; obtain ⟨⟨e0, k0⟩, ⟨e1, k1⟩, ⟨e2, k2⟩, ⟨e3, k3⟩, ⟨e4, k4⟩, ⟨e5, k5⟩, ⟨e6, k6⟩, ⟨e7, k7⟩⟩ := hSw; go_simp⟩) ?_
  simp only [Act.put]
  refine HeadW.take 5 (v := .slice (some ⟨g5, 0, none⟩) n cD) rfl (by kernel_rfl) (by kernel_rfl) (by kernel_rfl) (by decide) (by decide) (fun _ _ _ hL => seqB_ready hL.1) (by kernel_rfl) (by kernel_rfl) (fun _ _ _ h => h) HSC.out (.inl ⟨by kernel_rfl, by intro w hSw; rw [HSd.out] at hSw; obtain ⟨⟨e0, k0⟩, ⟨e1, k1⟩, ⟨e2, k2⟩, ⟨e3, k3⟩, ⟨e4, k4⟩, ⟨e5, k5⟩, ⟨e6, k6⟩, ⟨e7, k7⟩⟩ := hSw; go_simp⟩) ?_
  simp only [Act.put]
  refine HeadW.take 6 (v := .pointer (some ⟨gp, 1, none⟩)) rfl (by kernel_rfl) (by kernel_rfl) (by kernel_rfl) (by decide) (by decide) (fun _ _ _ hL => seqB_ready hL.1) (by kernel_rfl) (by kernel_rfl) (fun _ _ _ h => h) HSC.out (.inl ⟨by kernel_rfl, by intro w hSw; rw [HSd.out] at hSw; obtain ⟨⟨e0, k0⟩, ⟨e1, k1⟩, ⟨e2, k2⟩, ⟨e3, k3⟩, ⟨e4, k4⟩, ⟨e5, k5⟩, ⟨e6, k6⟩, ⟨e7, k7⟩⟩ := hSw; go_simp⟩) ?_
  simp only [Act.put]
  refine HeadW.take 7 (v := .slice AD0 n cD0) rfl (by kernel_rfl) (by kernel_rfl) (by kernel_rfl) (by decide) (by decide) (fun _ _ _ hL => seqB_ready hL.1) (by kernel_rfl) (by kernel_rfl) (fun _ _ _ h => h) HSC.out (.inl ⟨by kernel_rfl, by intro w hSw; rw [HSd.out] at hSw; obtain ⟨⟨e0, k0⟩, ⟨e1, k1⟩, ⟨e2, k2⟩, ⟨e3, k3⟩, ⟨e4, k4⟩, ⟨e5, k5⟩, ⟨e6, k6⟩, ⟨e7, k7⟩⟩ := hSw; go_simp⟩) ?_
  simp only [Act.put]
  refine HeadW.take 8 (v := .int .i64 (n : Int)) rfl (by kernel_rfl) (by kernel_rfl) (by kernel_rfl) (by decide) (by decide) (fun _ _ _ hL => seqB_ready hL.1) (by kernel_rfl) (by kernel_rfl) (fun _ _ _ h => h) HSC.out (.inl ⟨by kernel_rfl, by intro w hSw; rw [HSd.out] at hSw; obtain ⟨⟨e0, k0⟩, ⟨e1, k1⟩, ⟨e2, k2⟩, ⟨e3, k3⟩, ⟨e4, k4⟩, ⟨e5, k5⟩, ⟨e6, k6⟩, ⟨e7, k7⟩⟩ := hSw; go_simp⟩) ?_
  simp only [Act.put]
  refine HeadW.take 9 (v := .int .i64 ((n : Int) + 1)) rfl (by kernel_rfl) (by kernel_rfl) (by kernel_rfl) (by decide) (by decide) (fun _ _ _ hL => seqB_ready hL.1) (by kernel_rfl) (by kernel_rfl) (fun _ _ _ h => h) HSC.out (.inl ⟨by kernel_rfl, by intro w hSw; rw [HSd.out] at hSw; obtain ⟨⟨e0, k0⟩, ⟨e1, k1⟩, ⟨e2, k2⟩, ⟨e3, k3⟩, ⟨e4, k4⟩, ⟨e5, k5⟩, ⟨e6, k6⟩, ⟨e7, k7⟩⟩ := hSw; go_simp⟩) ?_
  simp only [Act.put]
  refine HeadW.take 10 (v := .slice (some ⟨g5, 0, none⟩) (n + 1) cD) rfl (by kernel_rfl) (by kernel_rfl) (by kernel_rfl) (by decide) (by decide) (fun _ _ _ hL => seqB_ready hL.1) (by kernel_rfl) (by kernel_rfl) (fun _ _ _ h => h) HSC.out (.inl ⟨by kernel_rfl, by intro w hSw; rw [HSd.out] at hSw; obtain ⟨⟨e0, k0⟩, ⟨e1, k1⟩, ⟨e2, k2⟩, ⟨e3, k3⟩, ⟨e4, k4⟩, ⟨e5, k5⟩, ⟨e6, k6⟩, ⟨e7, k7⟩⟩ := hSw; have q := slice13uB g5 n cD w hcd hdn; go_simp⟩) ?_
  simp only [Act.put]
  refine HeadW.take 11 (v := .pointer (some ⟨gp, 1, none⟩)) rfl (by kernel_rfl) (by kernel_rfl) (by kernel_rfl) (by decide) (by decide) (fun _ _ _ hL => seqB_ready hL.1) (by kernel_rfl) (by kernel_rfl) (fun _ _ _ h => h) HSC.out (.inl ⟨by kernel_rfl, by intro w hSw; rw [HSd.out] at hSw; obtain ⟨⟨e0, k0⟩, ⟨e1, k1⟩, ⟨e2, k2⟩, ⟨e3, k3⟩, ⟨e4, k4⟩, ⟨e5, k5⟩, ⟨e6, k6⟩, ⟨e7, k7⟩⟩ := hSw; go_simp⟩) ?_
  simp only [Act.put]
  refine HeadW.take 12 (v := .slice AD0 n cD0) rfl (by kernel_rfl) (by kernel_rfl) (by kernel_rfl) (by decide) (by decide) (fun _ _ _ hL => seqB_ready hL.1) (by kernel_rfl) (by kernel_rfl) (fun _ _ _ h => h) HSC.out (.inl ⟨by kernel_rfl, by intro w hSw; rw [HSd.out] at hSw; obtain ⟨⟨e0, k0⟩, ⟨e1, k1⟩, ⟨e2, k2⟩, ⟨e3, k3⟩, ⟨e4, k4⟩, ⟨e5, k5⟩, ⟨e6, k6⟩, ⟨e7, k7⟩⟩ := hSw; go_simp⟩) ?_
  simp only [Act.put]
  refine HeadW.take 13 (v := .int .i64 (n : Int)) rfl (by kernel_rfl) (by kernel_rfl) (by kernel_rfl) (by decide) (by decide) (fun _ _ _ hL => seqB_ready hL.1) (by kernel_rfl) (by kernel_rfl) (fun _ _ _ h => h) HSC.out (.inl ⟨by kernel_rfl, by intro w hSw; rw [HSd.out] at hSw; obtain ⟨⟨e0, k0⟩, ⟨e1, k1⟩, ⟨e2, k2⟩, ⟨e3, k3⟩, ⟨e4, k4⟩, ⟨e5, k5⟩, ⟨e6, k6⟩, ⟨e7, k7⟩⟩ := hSw; go_simp⟩) ?_
  simp only [Act.put]
  refine HeadW.take 14 (v := .pointer (some ⟨g5, n, none⟩)) rfl (by kernel_rfl) (by kernel_rfl) (by kernel_rfl) (by decide) (by decide) (fun _ _ _ hL => seqB_ready hL.1) (by kernel_rfl) (by kernel_rfl) (fun _ _ _ h => h) HSC.out (.inl ⟨by kernel_rfl, by intro w hSw; rw [HSd.out] at hSw; obtain ⟨⟨e0, k0⟩, ⟨e1, k1⟩, ⟨e2, k2⟩, ⟨e3, k3⟩, ⟨e4, k4⟩, ⟨e5, k5⟩, ⟨e6, k6⟩, ⟨e7, k7⟩⟩ := hSw; go_simp; intro hh; omega⟩) ?_
  simp only [Act.put]
  refine HeadW.take 15 (v := .int .u8 169) rfl (by kernel_rfl) (by kernel_rfl) (by kernel_rfl) (by decide) (by decide) (fun _ _ _ hL => seqB_ready hL.1) (by kernel_rfl) (by kernel_rfl) (fun _ _ _ h => h) HSC.out (.inl ⟨by kernel_rfl, by intro w hSw; rw [HSd.out] at hSw; obtain ⟨⟨e0, k0⟩, ⟨e1, k1⟩, ⟨e2, k2⟩, ⟨e3, k3⟩, ⟨e4, k4⟩, ⟨e5, k5⟩, ⟨e6, k6⟩, ⟨e7, k7⟩⟩ := hSw; go_simp⟩) ?_
  simp only [Act.put]
  refine HeadW.take 16 (v := .bool true) rfl (by kernel_rfl) (by kernel_rfl) (by kernel_rfl) (by decide) (by decide) (fun _ _ _ hL => seqB_ready hL.1) (by kernel_rfl) (by kernel_rfl) (fun _ _ _ h => h) HSC.out (.inl ⟨by kernel_rfl, by intro w hSw; rw [HSd.out] at hSw; obtain ⟨⟨e0, k0⟩, ⟨e1, k1⟩, ⟨e2, k2⟩, ⟨e3, k3⟩, ⟨e4, k4⟩, ⟨e5, k5⟩, ⟨e6, k6⟩, ⟨e7, k7⟩⟩ := hSw; go_simp⟩) ?_
  simp only [Act.put]
  refine HeadW.take 17 (v := .bool true) rfl (by kernel_rfl) (by kernel_rfl) (by kernel_rfl) (by decide) (by decide) (fun _ _ _ hL => seqB_ready hL.1) (by kernel_rfl) (by kernel_rfl) (fun _ _ _ h => h) HSC.out (.inl ⟨by kernel_rfl, by intro w hSw; rw [HSd.out] at hSw; obtain ⟨⟨e0, k0⟩, ⟨e1, k1⟩, ⟨e2, k2⟩, ⟨e3, k3⟩, ⟨e4, k4⟩, ⟨e5, k5⟩, ⟨e6, k6⟩, ⟨e7, k7⟩⟩ := hSw; go_simp⟩) ?_
  simp only [Act.put]
  refine HeadW.take 18 (v := .bool true) rfl (by kernel_rfl) (by kernel_rfl) (by kernel_rfl) (by decide) (by decide) (fun _ _ _ hL => seqB_ready hL.1) (by kernel_rfl) (by kernel_rfl) (fun _ _ _ h => h) HSC.out (.inl ⟨by kernel_rfl, by intro w hSw; rw [HSd.out] at hSw; obtain ⟨⟨e0, k0⟩, ⟨e1, k1⟩, ⟨e2, k2⟩, ⟨e3, k3⟩, ⟨e4, k4⟩, ⟨e5, k5⟩, ⟨e6, k6⟩, ⟨e7, k7⟩⟩ := hSw; go_simp⟩) ?_
  simp only [Act.put]
  refine HeadW.take 19 (v := .pointer (some ⟨gl, 2, none⟩)) rfl (by kernel_rfl) (by kernel_rfl) (by kernel_rfl) (by decide) (by decide) (fun _ _ _ hL => seqB_ready hL.1) (by kernel_rfl) (by kernel_rfl) (fun _ _ _ h => h) HSC.out (.inl ⟨by kernel_rfl, by intro w hSw; rw [HSd.out] at hSw; obtain ⟨⟨e0, k0⟩, ⟨e1, k1⟩, ⟨e2, k2⟩, ⟨e3, k3⟩, ⟨e4, k4⟩, ⟨e5, k5⟩, ⟨e6, k6⟩, ⟨e7, k7⟩⟩ := hSw; go_simp⟩) ?_
  simp only [Act.put]
  refine HeadW.take 20 (v := .slice (some ⟨g8, 0, none⟩) m cF) rfl (by kernel_rfl) (by kernel_rfl) (by kernel_rfl) (by decide) (by decide) (fun _ _ _ hL => seqB_ready hL.1) (by kernel_rfl) (by kernel_rfl) (fun _ _ _ h => h) HSC.out (.inl ⟨by kernel_rfl, by intro w hSw; rw [HSd.out] at hSw; obtain ⟨⟨e0, k0⟩, ⟨e1, k1⟩, ⟨e2, k2⟩, ⟨e3, k3⟩, ⟨e4, k4⟩, ⟨e5, k5⟩, ⟨e6, k6⟩, ⟨e7, k7⟩⟩ := hSw; go_simp⟩) ?_
  simp only [Act.put]
  refine HeadW.take 21 (v := .pointer (some ⟨gp, 2, none⟩)) rfl (by kernel_rfl) (by kernel_rfl) (by kernel_rfl) (by decide) (by decide) (fun _ _ _ hL => seqB_ready hL.1) (by kernel_rfl) (by kernel_rfl) (fun _ _ _ h => h) HSC.out (.inl ⟨by kernel_rfl, by intro w hSw; rw [HSd.out] at hSw; obtain ⟨⟨e0, k0⟩, ⟨e1, k1⟩, ⟨e2, k2⟩, ⟨e3, k3⟩, ⟨e4, k4⟩, ⟨e5, k5⟩, ⟨e6, k6⟩, ⟨e7, k7⟩⟩ := hSw; go_simp⟩) ?_
  simp only [Act.put]
  refine HeadW.take 22 (v := .slice AF0 m cF0) rfl (by kernel_rfl) (by kernel_rfl) (by kernel_rfl) (by decide) (by decide) (fun _ _ _ hL => seqB_ready hL.1) (by kernel_rfl) (by kernel_rfl) (fun _ _ _ h => h) HSC.out (.inl ⟨by kernel_rfl, by intro w hSw; rw [HSd.out] at hSw; obtain ⟨⟨e0, k0⟩, ⟨e1, k1⟩, ⟨e2, k2⟩, ⟨e3, k3⟩, ⟨e4, k4⟩, ⟨e5, k5⟩, ⟨e6, k6⟩, ⟨e7, k7⟩⟩ := hSw; go_simp⟩) ?_
  simp only [Act.put]
  refine HeadW.take 23 (v := .int .i64 (m : Int)) rfl (by kernel_rfl) (by kernel_rfl) (by kernel_rfl) (by decide) (by decide) (fun _ _ _ hL => seqB_ready hL.1) (by kernel_rfl) (by kernel_rfl) (fun _ _ _ h => h) HSC.out (.inl ⟨by kernel_rfl, by intro w hSw; rw [HSd.out] at hSw; obtain ⟨⟨e0, k0⟩, ⟨e1, k1⟩, ⟨e2, k2⟩, ⟨e3, k3⟩, ⟨e4, k4⟩, ⟨e5, k5⟩, ⟨e6, k6⟩, ⟨e7, k7⟩⟩ := hSw; go_simp⟩) ?_
  simp only [Act.put]
  refine HeadW.take 24 (v := .int .i64 ((m : Int) + 1)) rfl (by kernel_rfl) (by kernel_rfl) (by kernel_rfl) (by decide) (by decide) (fun _ _ _ hL => seqB_ready hL.1) (by kernel_rfl) (by kernel_rfl) (fun _ _ _ h => h) HSC.out (.inl ⟨by kernel_rfl, by intro w hSw; rw [HSd.out] at hSw; obtain ⟨⟨e0, k0⟩, ⟨e1, k1⟩, ⟨e2, k2⟩, ⟨e3, k3⟩, ⟨e4, k4⟩, ⟨e5, k5⟩, ⟨e6, k6⟩, ⟨e7, k7⟩⟩ := hSw; go_simp⟩) ?_
  simp only [Act.put]
  refine HeadW.take 25 (v := .slice (some ⟨g8, 0, none⟩) (m + 1) cF) rfl (by kernel_rfl) (by kernel_rfl) (by kernel_rfl) (by decide) (by decide) (fun _ _ _ hL => seqB_ready hL.1) (by kernel_rfl) (by kernel_rfl) (fun _ _ _ h => h) HSC.out (.inl ⟨by kernel_rfl, by intro w hSw; rw [HSd.out] at hSw; obtain ⟨⟨e0, k0⟩, ⟨e1, k1⟩, ⟨e2, k2⟩, ⟨e3, k3⟩, ⟨e4, k4⟩, ⟨e5, k5⟩, ⟨e6, k6⟩, ⟨e7, k7⟩⟩ := hSw; have q := slice13uF g8 m cF w hcf (by omega); go_simp⟩) ?_
  simp only [Act.put]
  refine HeadW.take 26 (v := .pointer (some ⟨gp, 2, none⟩)) rfl (by kernel_rfl) (by kernel_rfl) (by kernel_rfl) (by decide) (by decide) (fun _ _ _ hL => seqB_ready hL.1) (by kernel_rfl) (by kernel_rfl) (fun _ _ _ h => h) HSC.out (.inl ⟨by kernel_rfl, by intro w hSw; rw [HSd.out] at hSw; obtain ⟨⟨e0, k0⟩, ⟨e1, k1⟩, ⟨e2, k2⟩, ⟨e3, k3⟩, ⟨e4, k4⟩, ⟨e5, k5⟩, ⟨e6, k6⟩, ⟨e7, k7⟩⟩ := hSw; go_simp⟩) ?_
  simp only [Act.put]
  refine HeadW.take 27 (v := .slice AF0 m cF0) rfl (by kernel_rfl) (by kernel_rfl) (by kernel_rfl) (by decide) (by decide) (fun _ _ _ hL => seqB_ready hL.1) (by kernel_rfl) (by kernel_rfl) (fun _ _ _ h => h) HSC.out (.inl ⟨by kernel_rfl, by intro w hSw; rw [HSd.out] at hSw; obtain ⟨⟨e0, k0⟩, ⟨e1, k1⟩, ⟨e2, k2⟩, ⟨e3, k3⟩, ⟨e4, k4⟩, ⟨e5, k5⟩, ⟨e6, k6⟩, ⟨e7, k7⟩⟩ := hSw; go_simp⟩) ?_
  simp only [Act.put]
  refine HeadW.take 28 (v := .int .i64 (m : Int)) rfl (by kernel_rfl) (by kernel_rfl) (by kernel_rfl) (by decide) (by decide) (fun _ _ _ hL => seqB_ready hL.1) (by kernel_rfl) (by kernel_rfl) (fun _ _ _ h => h) HSC.out (.inl ⟨by kernel_rfl, by intro w hSw; rw [HSd.out] at hSw; obtain ⟨⟨e0, k0⟩, ⟨e1, k1⟩, ⟨e2, k2⟩, ⟨e3, k3⟩, ⟨e4, k4⟩, ⟨e5, k5⟩, ⟨e6, k6⟩, ⟨e7, k7⟩⟩ := hSw; go_simp⟩) ?_
  simp only [Act.put]
  refine HeadW.take 29 (v := .pointer (some ⟨g8, m * 4, none⟩)) rfl (by kernel_rfl) (by kernel_rfl) (by kernel_rfl) (by decide) (by decide) (fun _ _ _ hL => seqB_ready hL.1) (by kernel_rfl) (by kernel_rfl) (fun _ _ _ h => h) HSC.out (.inl ⟨by kernel_rfl, by intro w hSw; rw [HSd.out] at hSw; obtain ⟨⟨e0, k0⟩, ⟨e1, k1⟩, ⟨e2, k2⟩, ⟨e3, k3⟩, ⟨e4, k4⟩, ⟨e5, k5⟩, ⟨e6, k6⟩, ⟨e7, k7⟩⟩ := hSw; go_simp; intro hh; omega⟩) ?_
  simp only [Act.put]
  refine HeadW.take 30 (v := .pointer (some ⟨g8, m * 4, none⟩)) rfl (by kernel_rfl) (by kernel_rfl) (by kernel_rfl) (by decide) (by decide) (fun _ _ _ hL => seqB_ready hL.1) (by kernel_rfl) (by kernel_rfl) (fun _ _ _ h => h) HSC.out (.inl ⟨by kernel_rfl, by intro w hSw; rw [HSd.out] at hSw; obtain ⟨⟨e0, k0⟩, ⟨e1, k1⟩, ⟨e2, k2⟩, ⟨e3, k3⟩, ⟨e4, k4⟩, ⟨e5, k5⟩, ⟨e6, k6⟩, ⟨e7, k7⟩⟩ := hSw; go_simp⟩) ?_
  simp only [Act.put]
  refine HeadW.take 31 (v := .int .i64 (-7)) rfl (by kernel_rfl) (by kernel_rfl) (by kernel_rfl) (by decide) (by decide) (fun _ _ _ hL => seqB_ready hL.1) (by kernel_rfl) (by kernel_rfl) (fun _ _ _ h => h) HSC.out (.inl ⟨by kernel_rfl, by intro w hSw; rw [HSd.out] at hSw; obtain ⟨⟨e0, k0⟩, ⟨e1, k1⟩, ⟨e2, k2⟩, ⟨e3, k3⟩, ⟨e4, k4⟩, ⟨e5, k5⟩, ⟨e6, k6⟩, ⟨e7, k7⟩⟩ := hSw; go_simp⟩) ?_
  simp only [Act.put]
  refine HeadW.take 32 (v := .bool true) rfl (by kernel_rfl) (by kernel_rfl) (by kernel_rfl) (by decide) (by decide) (fun _ _ _ hL => seqB_ready hL.1) (by kernel_rfl) (by kernel_rfl) (fun _ _ _ h => h) HSC.out (.inl ⟨by kernel_rfl, by intro w hSw; rw [HSd.out] at hSw; obtain ⟨⟨e0, k0⟩, ⟨e1, k1⟩, ⟨e2, k2⟩, ⟨e3, k3⟩, ⟨e4, k4⟩, ⟨e5, k5⟩, ⟨e6, k6⟩, ⟨e7, k7⟩⟩ := hSw; go_simp⟩) ?_
  simp only [Act.put]
  refine HeadW.take 33 (v := .bool true) rfl (by kernel_rfl) (by kernel_rfl) (by kernel_rfl) (by decide) (by decide) (fun _ _ _ hL => seqB_ready hL.1) (by kernel_rfl) (by kernel_rfl) (fun _ _ _ h => h) HSC.out (.inl ⟨by kernel_rfl, by intro w hSw; rw [HSd.out] at hSw; obtain ⟨⟨e0, k0⟩, ⟨e1, k1⟩, ⟨e2, k2⟩, ⟨e3, k3⟩, ⟨e4, k4⟩, ⟨e5, k5⟩, ⟨e6, k6⟩, ⟨e7, k7⟩⟩ := hSw; go_simp⟩) ?_
  simp only [Act.put]
  simp only [List.getElem_toArray, List.getElem_cons_succ, List.getElem_cons_zero, List.setIfInBounds_toArray, List.set_cons_succ, List.set_cons_zero]
  refine fun hInv => ⟨by kernel_rfl, ?_⟩
  clear hInv
  simp only [List.drop_succ_cons, List.drop_zero]
  have HD2 := Lib.hid (show OwnD w2 base n g5 cD data from Own.below HD1.out Hb12.out (Nat.le_refl _))
  have HF2 := Lib.hid (show OwnF7 w2 base m g8 cF hs' from Own.below HF1.out Hb12.out (Nat.le_refl _))
  have HR2 := Lib.hid (show RowK w2 base m hs' from HR1.out.only (S := fun _ => False) (Only.of_fresh Hb12.out) (fun _ _ _ _ h => h))
  have hX2 := HX1.out.below Hb12.out HX1.out.lt
  have hY2 := HY1.out.below Hb12.out HY1.out.lt
  have Hb2 := Lib.hid (show Below w.heap.size w w2 from Hb1.out.trans (Hb12.out.mono Hb1.out.size))
  have x1 : w2.cell? ⟨gl, 1, none⟩ = some (.slice (some ⟨g5, 0, none⟩) n cD) := hX2.cell 1
  have x2 : w2.cell? ⟨gl, 2, none⟩ = some (.slice (some ⟨g8, 0, none⟩) m cF) := hX2.cell 2
  have y2 : w2.cell? ⟨gp, 2, none⟩ = some (.slice AF0 m cF0) := hY2.cell 2
  have xl := hX2.lt
  have yl := hY2.lt
  have HX2 := Lib.hid hX2
  have HX2b := Lib.hid hX2
  have HD2b := Lib.hid HD2.out
  clear hX2 hY2 HSC HSC2 HSd HX1 HY1 HD1 HF1 HR1
  clear SC
  go_wp2_with fail
  clear HX2 HD2
  go_loopw [5, 6, 7] (fun ov i nv wr => ∃ k : Nat, k ≤ m ∧ ov = .bool true ∧ i = .int .i64 (k : Int) ∧ wr = w2) (fun _ i _ _ => m - (intOf i).toNat)
  case atStart => exact ⟨0, Nat.zero_le _, rfl, rfl, rfl⟩
  case round =>
    obtain ⟨k, hk, rfl, rfl, rfl⟩ := hrel
    by_cases hlt : k < m
    · have g3 : (k : Int) < (m : Int) := by omega
      obtain ⟨b, off, hA, hb, hc⟩ := (HP.out.below Hb2.out).rv.at_ (by rw [funCells_len]; have := HM.out; dsimp only; omega)
      dsimp only at hA
      subst hA
      have hkl : k < fs.length := by have := HM.out; omega
      have hkh : k < hs'.length := by have := HE.out.2; omega
      obtain ⟨-, -, -, p3⟩ := fun_cells hc k hkl
      have hxk : hs'[k]? = some hs'[k] := List.getElem?_eq_getElem hkh
      have hcode : fs[k].code = hs'[k].code := by
        have h1 : (hs'.map FunM.plain)[k]? = (fs.map FunM.plain)[k]? := by rw [HE.out.1]
        rw [List.getElem?_map, List.getElem?_map, hxk, List.getElem?_eq_getElem hkl] at h1
        injection h1 with h1
        injection h1 with _ _ _ h1
        exact h1.symm
      have hFa := HP.out.funs _ (List.getElem_mem hkl)
      have hcl : hs'[k].code.length ≤ 8796093021952 := by rw [← hcode]; exact hFa.len
      have hfo := own_at HF2.out (k * 4 + 3) (by rw [funCells_len, List.length_append, List.length_singleton]; omega)
      have hfv : ((hs' ++ [markF7]).flatMap funCells)[k * 4 + 3]? = some (.slice hs'[k].A hs'[k].code.length hs'[k].c) := by
        rw [funCells_get _ k 3 (by rw [List.length_append]; omega) (by omega), List.getElem_append_left hkh]
        rfl
      have z3 : wr.cell? ⟨g8, k * 4 + 3, none⟩ = some (.slice hs'[k].A hs'[k].code.length hs'[k].c) := by rw [hfo.1, ← hfv, List.getElem?_eq_getElem]
      have hUk := HR2.out.done k _ hxk hlt
      rw [hcode] at p3
      obtain ⟨x, hxx⟩ : ∃ x, x = hs'[k] := ⟨_, rfl⟩
      rw [← hxx] at hUk z3 hcl hxk p3
      obtain ⟨xa, xl', xr, xA, xc, xcode⟩ := x
      obtain ⟨L, hL⟩ : ∃ L, L = xcode.length := ⟨_, rfl⟩
      unfold CodeK at hUk
      dsimp only at z3 hcl p3 hUk
      rw [← hL] at z3 hcl p3 hUk
      obtain ⟨g9, rfl, hg9a, hg9b⟩ := own_some hUk (by omega)
      have hc9 := own_cap hUk
      have d9 : wr.cell? ⟨g9, L * 2, none⟩ = some (.int .i64 (-7)) := by
        have hlen : ∀ l : List Ins, (l.flatMap insCells).length = l.length * 2 := fun l => by
          induction l with
          | nil => rfl
          | cons y l ih => rw [List.flatMap_cons, List.length_append, ih, List.length_cons]; simp [insCells]; omega
        have h := (own_at hUk (L * 2) (by rw [hlen, List.length_append, ← hL, List.length_singleton]; omega)).1
        rw [h, ← List.getElem?_eq_getElem, List.flatMap_append, List.getElem?_append_right (by rw [hlen, ← hL]; exact Nat.le_refl _), hlen, ← hL, Nat.sub_self]
        rfl
      have hsl := fun w' => slice13uI g9 L xc w' hc9 (by omega)
      have hwl : IntKind.i64.wrap ((L : Int) + 1) = (L : Int) + 1 := by rw [IntKind.wrap_i64]; omega
      have g4 : (L : Int) < ((L + 1 : Nat) : Int) := by omega
      obtain ⟨yA, yc, hyy⟩ : ∃ A c, A = fs[k].A ∧ c = fs[k].c := ⟨_, _, rfl, rfl⟩
      rw [← hyy.1, ← hyy.2] at p3
      clear hyy hUk hL hxk hxx hfv hfo hFa hcode hc hb hg9a hg9b
      go_wp2_with fail
      refine ⟨⟨k + 1, by omega, rfl, by first | rfl | go_num, trivial⟩, by simp [intOf]; omega⟩
    · obtain rfl : m = k := by omega
      have hSp : SpoilK wr base m g8 cF n g5 cD hs' 0 hs' := by
        refine ⟨HF2.out, HE.out.2, fun _ _ => rfl, fun f hf => ⟨_, HR2.out.mine.code f hf⟩, ⟨_, own_short HD2b.out rfl⟩⟩
      have HSp := Lib.hid hSp
      have HR2m := Lib.hid HR2.out.lt
      clear hSp HF2 HR2 HD2b HS0 HV HSm HQ x1
      go_wp2_with fail
      clear y2 yl
      go_loopw [8, 9] (fun i jv wy => ∃ (k : Nat) (fsx : List FunM), k ≤ m ∧ i = .int .i64 (k : Int) ∧ SpoilK wy base m g8 cF n g5 cD hs' k fsx ∧ Only (fun b => base ≤ b ∧ b < gl) wr wy) (fun i _ _ => m - (intOf i).toNat)
      case atStart => exact ⟨0, hs', Nat.zero_le _, rfl, HSp.out, Only.refl _ _⟩
      case round =>
        rename World => wy
        obtain ⟨k, fsx, hk2, rfl, hsp, hO⟩ := hrel
        have hXy := HX2b.out.only hO (by have := HG.out; omega)
        have x2y : wy.cell? ⟨gl, 2, none⟩ = some (.slice (some ⟨g8, 0, none⟩) m cF) := hXy.cell 2
        have x1y : wy.cell? ⟨gl, 1, none⟩ = some (.slice (some ⟨g5, 0, none⟩) n cD) := hXy.cell 1
        have xly := hXy.lt
        have HXy := Lib.hid hXy
        have HspK := Lib.hid hsp
        have HOy := Lib.hid hO
        clear hXy hsp hO x2 xl
        by_cases hlt2 : k < m
        · have g3 : (k : Int) < (m : Int) := by omega
          have hkh : k < hs'.length := by have := HE.out.2; omega
          have hkf : k < fsx.length := by have := HspK.out.len; omega
          have hxk : fsx[k]? = some hs'[k] := by rw [HspK.out.rest k (Nat.le_refl _)]; exact List.getElem?_eq_getElem hkh
          have hfv : ((fsx ++ [markF7]).flatMap funCells)[k * 4 + 3]? = some (.slice hs'[k].A hs'[k].code.length hs'[k].c) := by
            rw [funCells_get _ k 3 (by rw [List.length_append]; omega) (by omega), List.getElem_append_left hkf]
            rw [List.getElem?_eq_getElem hkf] at hxk
            injection hxk with hxk
            rw [hxk]; rfl
          have hfo := own_at HspK.out.funs (k * 4 + 3) (by rw [funCells_len, List.length_append, List.length_singleton]; omega)
          have z3 : wy.cell? ⟨g8, k * 4 + 3, none⟩ = some (.slice hs'[k].A hs'[k].code.length hs'[k].c) := by rw [hfo.1, ← hfv, List.getElem?_eq_getElem]
          have hmem : hs'[k] ∈ hs' := List.getElem_mem hkh
          obtain ⟨x, hxx⟩ : ∃ x, x = hs'[k] := ⟨_, rfl⟩
          rw [← hxx] at z3 hmem
          obtain ⟨xa, xl', xr, xA, xc, xcode⟩ := x
          obtain ⟨L, hL⟩ : ∃ L, L = xcode.length := ⟨_, rfl⟩
          have hcl : L ≤ 8796093021952 := by
            obtain ⟨f, hf, e⟩ := List.mem_map.1 (show FunM.plain ⟨xa, xl', xr, xA, xc, xcode⟩ ∈ fs.map FunM.plain from by rw [← HE.out.1]; exact List.mem_map.2 ⟨_, hmem, rfl⟩)
            have h1 := (HP.out.funs f hf).len
            injection e with _ _ _ e
            dsimp only at e
            rw [hL, ← e]; exact h1
          dsimp only at z3
          rw [← hL] at z3
          have HMem := Lib.hid hmem
          have HL := Lib.hid hL
          clear hmem hL hxx hfv hfo hxk
          go_wp2_with fail
          go_loopw [9] (fun jv wz => ∃ j : Nat, j ≤ L ∧ jv = .int .i64 (j : Int) ∧ SpoilK wz base m g8 cF n g5 cD hs' k fsx ∧ wz.cell? ⟨g8, k * 4 + 3, none⟩ = some (.slice xA L xc) ∧ Only (fun b => base ≤ b ∧ b < gl) wr wz) (fun jv _ => L - (intOf jv).toNat)
          case atStart => exact ⟨0, Nat.zero_le _, rfl, HspK.out, z3, HOy.out⟩
          case round =>
            rename World => wz
            obtain ⟨j, hj, rfl, hsz, z3z, hOz⟩ := hrel
            have hXz := HX2b.out.only hOz (by have := HG.out; omega)
            have x2z : wz.cell? ⟨gl, 2, none⟩ = some (.slice (some ⟨g8, 0, none⟩) m cF) := hXz.cell 2
            have xlz := hXz.lt
            have HSz := Lib.hid hsz
            have HOz := Lib.hid hOz
            clear hXz hsz hOz x2y xly x1y z3
            by_cases hltj : j < L
            · have g4 : (j : Int) < (L : Int) := by omega
              obtain ⟨vs, hv⟩ := HSz.out.code _ HMem.out
              dsimp only at hv
              rw [← HL.out] at hv
              obtain ⟨g9, rfl, hg9a, hg9b⟩ := own_some hv (by omega)
              have hvl := hv.1
              obtain ⟨o0, r0, -⟩ := own_at hv (j * 2) (by omega)
              obtain ⟨o1, r1, -⟩ := own_at hv (j * 2 + 1) (by omega)
              have hg9l := (HR2m.out _ HMem.out g9 rfl)
              have hne9 : ¬ g9 = g8 := fun e => own_ne hv HSz.out.funs (by decide) g9 rfl (by rw [e]; rfl)
              obtain ⟨v0, o0'⟩ : ∃ v, wz.cell? ⟨g9, j * 2, none⟩ = some v := ⟨_, o0⟩
              obtain ⟨v1, o1'⟩ : ∃ v, wz.cell? ⟨g9, j * 2 + 1, none⟩ = some v := ⟨_, o1⟩
              clear o0 o1
              clear hv hvl
              go_wp2_with fail
              refine ⟨⟨j + 1, by omega, by first | rfl | go_num, (HSz.out.code_set HMem.out rfl _ _).code_set HMem.out rfl _ _, ?_, ?_⟩, by simp [intOf]; omega⟩
              · rw [((only_set1 _ g9 (j * 2 + 1) _).cell (p := ⟨g8, k * 4 + 3, none⟩) (by simp; exact (own_at HSz.out.funs 0 (by rw [funCells_len, List.length_append, List.length_singleton]; omega)).2.2) (fun e => hne9 e.symm)), ((only_set1 _ g9 (j * 2) _).cell (p := ⟨g8, k * 4 + 3, none⟩) (own_at HSz.out.funs 0 (by rw [funCells_len, List.length_append, List.length_singleton]; omega)).2.2 (fun e => hne9 e.symm))]
                exact z3z
              · exact (HOz.out.setCell (p := ⟨g9, j * 2, none⟩) (.inl ⟨hg9a, HR2l.out _ HMem.out g9 rfl⟩) _).setCell (p := ⟨g9, j * 2 + 1, none⟩) (.inl ⟨hg9a, HR2l.out _ HMem.out g9 rfl⟩) _
            · have hq0 := own_at HSz.out.funs (k * 4) (by rw [funCells_len, List.length_append, List.length_singleton]; omega)
              have hq1 := own_at HSz.out.funs (k * 4 + 1) (by rw [funCells_len, List.length_append, List.length_singleton]; omega)
              have hq2 := own_at HSz.out.funs (k * 4 + 2) (by rw [funCells_len, List.length_append, List.length_singleton]; omega)
              have hq3 := own_at HSz.out.funs (k * 4 + 3) (by rw [funCells_len, List.length_append, List.length_singleton]; omega)
              obtain ⟨v0, hv0⟩ : ∃ v, wz.cell? ⟨g8, k * 4, none⟩ = some v := ⟨_, hq0.1⟩
              obtain ⟨v1, hv1⟩ : ∃ v, wz.cell? ⟨g8, k * 4 + 1, none⟩ = some v := ⟨_, hq1.1⟩
              obtain ⟨v2, hv2⟩ : ∃ v, wz.cell? ⟨g8, k * 4 + 2, none⟩ = some v := ⟨_, hq2.1⟩
              have r0 := hq0.2.1
              have r1 := hq1.2.1
              have r2 := hq2.2.1
              have r3 := hq3.2.1
              have l8z := hq0.2.2
              clear hq0 hq1 hq2 hq3
              go_wp2_with fail
              have hA8 : base ≤ g8 := HG.out.2.2.2.2.2.2.2
              have hB8 : g8 < gl := by have := HG.out; omega
              refine ⟨⟨k + 1, _, by omega, by first | rfl | go_num, HSz.out.fun_set hlt2, ?_⟩, by simp [intOf]; omega⟩
              exact (((HOz.out.setCell (p := ⟨g8, k * 4, none⟩) (.inl ⟨hA8, hB8⟩) _).setCell (p := ⟨g8, k * 4 + 1, none⟩) (.inl ⟨hA8, hB8⟩) _).setCell (p := ⟨g8, k * 4 + 2, none⟩) (.inl ⟨hA8, hB8⟩) _).setCell (p := ⟨g8, k * 4 + 3, none⟩) (.inl ⟨hA8, hB8⟩) _
        · obtain rfl : m = k := by omega
          go_wp2_with fail
          go_loopw [10] (fun jv wz => ∃ j : Nat, j ≤ n ∧ jv = .int .i64 (j : Int) ∧ AnyOwn wz base 5 1 (some ⟨g5, 0, none⟩) n cD ∧ Only (fun b => base ≤ b ∧ b < gl) wr wz) (fun jv _ => n - (intOf jv).toNat)
          case atStart => exact ⟨0, Nat.zero_le _, rfl, HspK.out.data, HOy.out⟩
          case round =>
            rename World => wz
            obtain ⟨j, hj, rfl, hdz, hOz⟩ := hrel
            have hXz := HX2b.out.only hOz (by have := HG.out; omega)
            have x1z : wz.cell? ⟨gl, 1, none⟩ = some (.slice (some ⟨g5, 0, none⟩) n cD) := hXz.cell 1
            have xlz := hXz.lt
            have HDz := Lib.hid hdz
            have HOz := Lib.hid hOz
            clear hXz hdz hOz x2y xly x1y
            by_cases hltj : j < n
            · have g4 : (j : Int) < (n : Int) := by omega
              obtain ⟨vs, hv⟩ := HDz.out
              have hvl := hv.1
              obtain ⟨o0, r0, l5z⟩ := own_at hv j (by omega)
              have hA5 : base ≤ g5 := HG.out.2.2.2.2.2.2.1
              have hB5 : g5 < gl := by have := HG.out; omega
              obtain ⟨v0, o0'⟩ : ∃ v, wz.cell? ⟨g5, j, none⟩ = some v := ⟨_, o0⟩
              clear o0
              clear hv hvl
              go_wp2_with fail
              refine ⟨⟨j + 1, by omega, by first | rfl | go_num, HDz.out.set _ _ _, HOz.out.setCell (p := ⟨g5, j, none⟩) (.inl ⟨hA5, hB5⟩) _⟩, by simp [intOf]; omega⟩
            · go_wp2_with fail
              go_ret
              have hGG := HG.out
              exact ⟨rfl, (Hb2.out.mono hGG.2.2.2.1).trans (HOz.out.below (B := base) (by have := Hb2.out.size; omega) (fun b hb h => by omega))⟩
end Go.Proofs.Ytcmpmhlcfalbhaa
