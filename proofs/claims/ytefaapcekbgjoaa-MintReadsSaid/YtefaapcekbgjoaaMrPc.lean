/- The reference's call of a script. -/
import Derived.Test.YtefaapcekbgjoaaMrPq
namespace Go.Proofs.Ytefaapcekbgjoaa
open Go.RowKit

def PCallPost (B gp : Nat) (AC : Option Addr) (nC cC : Nat) (st : PS) (gs : List Nat) (TA : List (Option Addr × Nat)) (l : Sl3) (c : PCall) (w : World) (e : Ending) (w' : World) : Prop :=
  e = .returned (.tuple #[]) ∧ Only (fun b => B ≤ b) w w' ∧ match st.callAt c with
  | none => PlM w' B gp AC nC cC st.at_ gs st.told TA st.ret st.many l ∧ RfM w' B gs st.rs none
  | some (.ok (g, a)) => ∃ t l', PlM w' B gp AC nC cC st.at_ gs (st.told ++ [g]) (TA ++ [t]) st.ret st.many l' ∧ RfM w' B gs (st.tell (st.jOf c) a g).rs none
  | some (.error f) => PlM w' B gp AC nC cC st.at_ gs st.told TA st.ret st.many l ∧ RfM w' B gs st.rs (some (st.jOf c, f))
set_option maxRecDepth 100000 in
set_option maxHeartbeats 20000000 in
theorem refCall_any {B gp nC cC : Nat} {AC : Option Addr} (w : World) (st : PS) (gs : List Nat) (TA : List (Option Addr × Nat)) (l : Sl3) (c : PCall) (cA : Option Addr) (cc : Nat)
    (hS : PlM w B gp AC nC cC st.at_ gs st.told TA st.ret st.many l) (hR : RfM w B gs st.rs none) (hd : 0 < gs.length) (hd2 : gs.length ≤ 20) (ht : st.told.length ≤ 400) (hB : B ≤ w.heap.size) :
    Calls Try.prog 66 #[pv gp, .agg #[.int .i64 c.kind, .int .i64 c.n, .int .i64 c.out, .slice cA c.b.length cc], .int .i64 (gs.length : Int)] w (PCallPost B gp AC nC cC st gs TA l c w) := by
  obtain ⟨d, hdd⟩ : ∃ d, d = gs.length := ⟨_, rfl⟩
  rw [← hdd] at hd hd2 ⊢
  obtain ⟨k, hk⟩ : ∃ k, k = roundN c.out d := ⟨_, rfl⟩
  have hem1 := Int.emod_nonneg c.out (show (d : Int) ≠ 0 by omega)
  have hem2 := Int.emod_lt_of_pos c.out (show (0 : Int) < (d : Int) by omega)
  have hkI : c.out % (d : Int) = (k : Int) := by
    rw [hk]; unfold roundN; exact (Int.toNat_of_nonneg hem1).symm
  have hkd : k < d := by omega
  obtain ⟨j, hj⟩ : ∃ j, j = st.jOf c := ⟨_, rfl⟩
  have hjI : (d : Int) - 1 - (k : Int) = (j : Int) := by
    have h1 := hR.len
    rw [hj]; unfold PS.jOf
    rw [← h1, ← hdd, ← hk]
    omega
  have hjd : j < d := by omega
  obtain ⟨gm, hm⟩ : ∃ g, gs[j]? = some g := ⟨_, List.getElem?_eq_getElem (by omega)⟩
  obtain ⟨r, hr⟩ : ∃ r, st.rs[j]? = some r := ⟨_, List.getElem?_eq_getElem (by have := hR.len; omega)⟩
  obtain ⟨mA, mc, hrd, hsl, hrl, hAB⟩ := hR.good j gm r hm hr (fun y h => by cases h)
  have hBm := hR.low gm (List.mem_of_getElem? hm)
  obtain ⟨gR, hgR, -, hgR2⟩ := ownG_some hS.rows (by omega)
  have hrow := hS.rows
  rw [hgR] at hrow
  obtain ⟨rc, -, -⟩ := ownG_at hrow j (by simp; omega)
  rw [List.getElem_map] at rc
  have hmj : gs[j]'(by omega) = gm := by
    have h := hm
    rw [List.getElem?_eq_getElem (by omega)] at h
    exact Option.some.inj h
  rw [hmj] at rc
  have hca : st.callAt c = callR c r.1 r.2 := by
    unfold PS.callAt
    rw [← hj, List.getD_eq_getElem?_getD, hr]; rfl
  obtain ⟨w1, hw1⟩ : ∃ w', w' = w.alloc (.cells #[.int .i64 c.kind, .int .i64 c.n, .int .i64 c.out, .slice cA c.b.length cc] 111) := ⟨_, rfl⟩
  have hb1 : Below w.heap.size w w1 := by rw [hw1]; exact (Below.refl _ _).alloc (Nat.le_refl _) _
  obtain ⟨gb, hgb⟩ : ∃ g, g = w.heap.size := ⟨_, rfl⟩
  have hC1 : Blk w1 gb 111 #[.int .i64 c.kind, .int .i64 c.n, .int .i64 c.out, .slice cA c.b.length cc] := by rw [hw1, hgb]; exact Blk.new _ _ _
  have hS1 := hS.below hb1
  have sc := hS1.blk.cell 2
  have sc2 : w1.cell? ⟨gp, 2, none⟩ = some (.slice (some ⟨gR, 0, none⟩) d l.cR) := by rw [sc, ← hgR, hdd]; rfl
  have sl := hS1.blk.lt
  have bc : w1.cell? ⟨gb, 2, none⟩ = some (.int .i64 c.out) := hC1.cell 2
  have bl := hC1.lt
  have rc1 : w1.cell? ⟨gR, j, none⟩ = some (pv gm) := by rw [(bcell hb1).1 _ _ hgR2]; exact rc
  have rl1 : gR < w1.heap.size := Nat.lt_of_lt_of_le hgR2 hb1.size
  have HS := Lib.hid hS
  have HR := Lib.hid hR
  have HRd0 := Lib.hid hrd
  have Hsl := Lib.hid hsl
  have HAB := Lib.hid hAB
  have HC1 := Lib.hid hC1
  have Hca := Lib.hid hca
  have Hm := Lib.hid hm
  have Hr := Lib.hid hr
  have Hb1 := Lib.hid hb1
  have Hw1 := Lib.hid hw1
  have Hgb := Lib.hid hgb
  have Hj := Lib.hid hj
  have Hrl := Lib.hid hrl
  have hro := round_any c.out (d : Int)
  have hwr1 : IntKind.i64.wrap ((d : Int) - 1) = (d : Int) - 1 := by rw [IntKind.wrap_i64]; omega
  have hwr3 : IntKind.i64.wrap (j : Int) = (j : Int) := by rw [IntKind.wrap_i64]; omega
  have hwr2 : IntKind.i64.wrap ((d : Int) - 1 - (k : Int)) = (j : Int) := by rw [hjI, IntKind.wrap_i64]; omega
  clear hS hR hdd hk hem1 hem2 hj hm hr hrd hrl hgR hgR2 hrow rc hmj hca hw1 hb1 hgb hC1 hS1 sc hsl hAB
  go_enter Try.func66, Try.ntmps66
  go_upto_region 1 with (fail)
  rw [← Hw1.out, ← Hgb.out]
  clear Hw1
  obtain ⟨SC, hSCd⟩ : ∃ S : World → Prop, S = fun w' => (w'.cell? ⟨gp, 2, none⟩ = some (.slice (some ⟨gR, 0, none⟩) d l.cR) ∧ gp < w'.heap.size) ∧ (w'.cell? ⟨gb, 2, none⟩ = some (.int .i64 c.out) ∧ gb < w'.heap.size) ∧ (w'.cell? ⟨gR, j, none⟩ = some (pv gm) ∧ gR < w'.heap.size) := ⟨_, rfl⟩
  have hSC : SC w1.drew := by rw [hSCd]; exact ⟨⟨sc2, sl⟩, ⟨bc, bl⟩, ⟨rc1, rl1⟩⟩
  have HSC := Lib.hid (show SC w1.drew from hSC)
  have HSd := Lib.hid hSCd
  clear hSC hSCd
  refine region_heldT 14 SC (by kernel_rfl) (by decide) ?_
  refine HeadW.takeA 0 (v := pv gp) rfl (by kernel_rfl) rfl (by decide) (fun _ _ _ hL => seqB_ready hL.1) (by kernel_rfl) (by kernel_rfl) (fun _ _ _ h => h) HSC.out (.inl ⟨by kernel_rfl, by intro w hSw; rw [HSd.out] at hSw; obtain ⟨⟨e0, l0⟩, ⟨e1, l1⟩, ⟨e2, l2⟩⟩ := hSw; go_simp⟩) ?_
  simp only [Act.put, List.setIfInBounds_toArray]
  refine HeadW.takeA 1 (v := pv gp) rfl (by kernel_rfl) rfl (by decide) (fun _ _ _ hL => seqB_ready hL.1) (by kernel_rfl) (by kernel_rfl) (fun _ _ _ h => h) HSC.out (.inl ⟨by kernel_rfl, by intro w hSw; rw [HSd.out] at hSw; obtain ⟨⟨e0, l0⟩, ⟨e1, l1⟩, ⟨e2, l2⟩⟩ := hSw; go_simp⟩) ?_
  simp only [Act.put]
  refine HeadW.takeA 2 (v := .pointer (some ⟨gp, 2, none⟩)) rfl (by kernel_rfl) rfl (by decide) (fun _ _ _ hL => seqB_ready hL.1) (by kernel_rfl) (by kernel_rfl) (fun _ _ _ h => h) HSC.out (.inl ⟨by kernel_rfl, by intro w hSw; rw [HSd.out] at hSw; obtain ⟨⟨e0, l0⟩, ⟨e1, l1⟩, ⟨e2, l2⟩⟩ := hSw; go_simp⟩) ?_
  simp only [Act.put]
  refine HeadW.takeA 3 (v := .slice (some ⟨gR, 0, none⟩) d l.cR) rfl (by kernel_rfl) rfl (by decide) (fun _ _ _ hL => seqB_ready hL.1) (by kernel_rfl) (by kernel_rfl) (fun _ _ _ h => h) HSC.out (.inl ⟨by kernel_rfl, by intro w hSw; rw [HSd.out] at hSw; obtain ⟨⟨e0, l0⟩, ⟨e1, l1⟩, ⟨e2, l2⟩⟩ := hSw; go_simp⟩) ?_
  simp only [Act.put]
  refine HeadW.takeA 4 (v := .int .i64 (d : Int)) rfl (by kernel_rfl) rfl (by decide) (fun _ _ _ hL => seqB_ready hL.1) (by kernel_rfl) (by kernel_rfl) (fun _ _ _ h => h) HSC.out (.inl ⟨by kernel_rfl, by intro w hSw; rw [HSd.out] at hSw; obtain ⟨⟨e0, l0⟩, ⟨e1, l1⟩, ⟨e2, l2⟩⟩ := hSw; go_simp⟩) ?_
  simp only [Act.put]
  refine HeadW.takeA 5 (v := .int .i64 ((d : Int) - 1)) rfl (by kernel_rfl) rfl (by decide) (fun _ _ _ hL => seqB_ready hL.1) (by kernel_rfl) (by kernel_rfl) (fun _ _ _ h => h) HSC.out (.inl ⟨by kernel_rfl, by intro w hSw; rw [HSd.out] at hSw; obtain ⟨⟨e0, l0⟩, ⟨e1, l1⟩, ⟨e2, l2⟩⟩ := hSw; go_simp⟩) ?_
  simp only [Act.put]
  refine HeadW.takeA 6 (v := .pointer (some ⟨gb, 2, none⟩)) rfl (by kernel_rfl) rfl (by decide) (fun _ _ _ hL => seqB_ready hL.1) (by kernel_rfl) (by kernel_rfl) (fun _ _ _ h => h) HSC.out (.inl ⟨by kernel_rfl, by intro w hSw; rw [HSd.out] at hSw; obtain ⟨⟨e0, l0⟩, ⟨e1, l1⟩, ⟨e2, l2⟩⟩ := hSw; go_simp⟩) ?_
  simp only [Act.put]
  refine HeadW.takeA 7 (v := .int .i64 c.out) rfl (by kernel_rfl) rfl (by decide) (fun _ _ _ hL => seqB_ready hL.1) (by kernel_rfl) (by kernel_rfl) (fun _ _ _ h => h) HSC.out (.inl ⟨by kernel_rfl, by intro w hSw; rw [HSd.out] at hSw; obtain ⟨⟨e0, l0⟩, ⟨e1, l1⟩, ⟨e2, l2⟩⟩ := hSw; go_simp⟩) ?_
  simp only [Act.put]
  refine HeadW.takeA 8 (v := .int .i64 (d : Int)) rfl (by kernel_rfl) rfl (by decide) (fun _ _ _ hL => seqB_ready hL.1) (by kernel_rfl) (by kernel_rfl) (fun _ _ _ h => h) HSC.out (.inl ⟨by kernel_rfl, by intro w hSw; rw [HSd.out] at hSw; obtain ⟨⟨e0, l0⟩, ⟨e1, l1⟩, ⟨e2, l2⟩⟩ := hSw; go_simp⟩) ?_
  simp only [Act.put]
  refine headW_one 9 rfl (by decide) (by kernel_rfl) (by kernel_rfl) fun K hK => ?_
  go_simp
  refine (hro _ (by omega) (by omega)).mono ?_
  rintro e wq ⟨rfl, rfl⟩
  rw [hkI]
  refine hK.out _ _ HSC.out (fun hHeld => ?_)
  clear hK K hHeld hro
  refine HeadW.takeA 10 (v := .int .i64 (j : Int)) rfl (by kernel_rfl) rfl (by decide) (fun _ _ _ hL => seqB_ready hL.1) (by kernel_rfl) (by kernel_rfl) (fun _ _ _ h => h) HSC.out (.inl ⟨by kernel_rfl, by intro w hSw; rw [HSd.out] at hSw; obtain ⟨⟨e0, l0⟩, ⟨e1, l1⟩, ⟨e2, l2⟩⟩ := hSw; go_simp⟩) ?_
  simp only [Act.put]
  refine HeadW.takeA 11 (v := .pointer (some ⟨gR, j, none⟩)) rfl (by kernel_rfl) rfl (by decide) (fun _ _ _ hL => seqB_ready hL.1) (by kernel_rfl) (by kernel_rfl) (fun _ _ _ h => h) HSC.out (.inl ⟨by kernel_rfl, by intro w hSw; rw [HSd.out] at hSw; obtain ⟨⟨e0, l0⟩, ⟨e1, l1⟩, ⟨e2, l2⟩⟩ := hSw; go_simp⟩) ?_
  simp only [Act.put]
  refine HeadW.takeA 12 (v := pv gm) rfl (by kernel_rfl) rfl (by decide) (fun _ _ _ hL => seqB_ready hL.1) (by kernel_rfl) (by kernel_rfl) (fun _ _ _ h => h) HSC.out (.inl ⟨by kernel_rfl, by intro w hSw; rw [HSd.out] at hSw; obtain ⟨⟨e0, l0⟩, ⟨e1, l1⟩, ⟨e2, l2⟩⟩ := hSw; go_simp⟩) ?_
  simp only [Act.put]
  refine headW_one 13 rfl (by decide) (by kernel_rfl) (by kernel_rfl) fun K hK => ?_
  go_simp
  refine hK.out _ _ HSC.out (fun hHeld => ?_)
  clear hK K hHeld
  refine fun hInv => ⟨by kernel_rfl, ?_⟩
  clear hInv
  simp only [List.drop_succ_cons, List.drop_zero]
  obtain ⟨w3, hw3⟩ : ∃ w', w' = (w1.alloc (.cells #[.int .i64 c.kind, .int .i64 0, .slice none 0 0] 71)).drew := ⟨_, rfl⟩
  obtain ⟨gg, hgg⟩ : ∃ g, g = w1.heap.size := ⟨_, rfl⟩
  have hb3 : Below w1.heap.size w1 w3 := by rw [hw3]; exact ((Below.refl _ w1).alloc (Nat.le_refl _) _).drew
  have hG3 : Blk w3 gg 71 #[.int .i64 c.kind, .int .i64 0, .slice none 0 0] := by rw [hw3, hgg]; exact Blk.new w1 _ _
  have hggL : w.heap.size ≤ gg := by rw [hgg]; exact Hb1.out.size
  have hb03 : Below w.heap.size w w3 := Hb1.out.trans (hb3.mono Hb1.out.size)
  have HG3 := Lib.hid hG3
  have Hw3 := Lib.hid hw3
  have Hgg := Lib.hid hgg
  have Hb3 := Lib.hid hb03
  have HRd3 := Lib.hid (HRd0.out.below hb03)
  have HAg := Lib.hid (show r.1 ≠ [] → ∀ b o, mA = some ⟨b, o, none⟩ → b ≠ gg from fun hn b o e => by have := HAB.out (List.length_pos_iff.2 hn) b o e; omega)
  have hC3 := HC1.out.below hb3 HC1.out.lt
  have bk0 : w1.drew.cell? ⟨gb, 0, none⟩ = some (.int .i64 c.kind) := HC1.out.cell 0
  have bk3 : w3.cell? ⟨gb, 0, none⟩ = some (.int .i64 c.kind) := hC3.cell 0
  have bn3 : w3.cell? ⟨gb, 1, none⟩ = some (.int .i64 c.n) := hC3.cell 1
  have bl3 := hC3.lt
  clear hw3 hgg hb3 hG3 hC3 HC1 sc2 sl bc rc1 rl1 hwr1 hwr2 hwr3 HSC HSd hb03
  clear SC
  go_upto_region 3 with (fail)
  rw [← Hw3.out, ← Hgg.out]
  clear Hw3 bk0
  by_cases hk1 : c.kind = 1
  · as_aux_lemma =>
    have hc := refRead_any c (by omega) gm mc r.2 mA r.1 w3 HRd3.out (by have := Hrl.out.1; omega) Hrl.out.2 Hsl.out.nil
    rw [hk1] at hc
    have Hc := Lib.hid hc
    clear hc
    go_wp2_with fail
    refine Hc.out.mono ?_
    clear Hc
    rintro e w4 ⟨hO4, ⟨x, a, A5, c5, hcr, hxk, rfl, hB4, hR4⟩ | ⟨f, a, hcr, rfl, hR4⟩⟩
    · have hG4 := HG3.out.only hO4 (fun e => by have h := HRd3.out.blk.ty; rw [← e] at h; exact absurd (blkT_eq h HG3.out.ty) (by decide))
      have hmid := PcOk.item (.cells #[.int .i64 1, .int .i64 x.n, .slice A5 x.b.length c5] 30) HAg.out hG4 hR4 hB4 hO4 hcr hxk
      rw [hk1]
      have g1 : w4.cell? ⟨gg, 1, none⟩ = some (.int .i64 0) := hG4.cell 1
      have g2 : w4.cell? ⟨gg, 2, none⟩ = some (.slice none 0 0) := hG4.cell 2
      have gf := hG4.frozen 1
      have gf2 := hG4.frozen 2
      have gl := hG4.lt
      obtain ⟨w5, hw5⟩ : ∃ w', w' = ((w4.setCell ⟨gg, 1, none⟩ (.int .i64 x.n)).setCell ⟨gg, 2, none⟩ (.slice A5 x.b.length c5)).alloc (.cells #[.int .i64 1, .int .i64 x.n, .slice A5 x.b.length c5] 30) := ⟨_, rfl⟩
      have hmid := show PcOk w3 c gm mA mc r gg w5 from by rw [hw5]; exact hmid
      have Hw5 := Lib.hid hw5
      obtain ⟨g, a, t, hcr, hgk, hG5, hB5, hR5, hO5⟩ := hmid.out
      rw [hk1] at hG5
      have hOw5 : Only (fun b => b = gm) w w5 := (Only.of_fresh Hb3.out).more hO5 fun b hb e => e.resolve_right (by omega)
      have hS5 := HS.out.only hOw5 (fun b ty hb ht e => by rw [e] at hb; exact ht (blkT_eq hb HRd0.out.blk.ty))
      have HRf5 := Lib.hid ((HR.out.go Hm.out Hr.out HAB.out Hsl.out Hrl.out hOw5 hR5).1 rfl)
      have HS5 := Lib.hid hS5
      have HB5 := Lib.hid hB5
      have Hcr := Lib.hid hcr
      have Hgk := Lib.hid hgk
      have HOw5 := Lib.hid hOw5
      have r2 : w5.cell? ⟨gm, 2, none⟩ = some (.int .i64 0) := hR5.c2
      have r2l := hR5.blk.lt
      have HR5 := Lib.hid hR5
      have s4 : w5.cell? ⟨gp, 3, none⟩ = some (.slice l.AT st.told.length l.cT) := hS5.blk.cell 3
      have sf4 := hS5.blk.frozen 3
      have sl5 := hS5.blk.lt
      have k0 : w5.cell? ⟨gg, 0, none⟩ = some (.int .i64 1) := hG5.cell 0
      have k1 : w5.cell? ⟨gg, 1, none⟩ = some (.int .i64 g.n) := hG5.cell 1
      have k2 : w5.cell? ⟨gg, 2, none⟩ = some (.slice t.1 g.b.length t.2) := hG5.cell 2
      have kl := hG5.lt
      have HG5 := Lib.hid hG5
      clear hw5 hmid hcr hgk hG5 hB5 hO5 hOw5 hS5 hR5 hG4 hB4 hxk hR4 hO4
      go_upto_region 19 with (fail)
      rw [← Hw5.out]
      clear Hw5 g1 g2 gf gf2 gl
      go_upto_region 20 with (fail)
      obtain ⟨SC, hSCd⟩ : ∃ S : World → Prop, S = fun w' => (w'.cell? ⟨gp, 3, none⟩ = some (.slice l.AT st.told.length l.cT) ∧ w'.frozen? ⟨gp, 3, none⟩ = false ∧ gp < w'.heap.size) ∧ (w'.cell? ⟨gg, 0, none⟩ = some (.int .i64 1) ∧ w'.cell? ⟨gg, 1, none⟩ = some (.int .i64 g.n) ∧ w'.cell? ⟨gg, 2, none⟩ = some (.slice t.1 g.b.length t.2) ∧ gg < w'.heap.size) := ⟨_, rfl⟩
      have hSC : SC w5.drew := by rw [hSCd]; exact ⟨⟨s4, sf4, sl5⟩, ⟨k0, k1, k2, kl⟩⟩
      have HSC := Lib.hid (show SC w5.drew from hSC)
      have HSd := Lib.hid hSCd
      clear hSC hSCd
      refine region_heldT 8 SC (by kernel_rfl) (by decide) ?_
      refine HeadW.take 0 (v := pv gp) rfl (by kernel_rfl) (by kernel_rfl) (by kernel_rfl) (by decide) (by decide) (fun _ _ _ hL => seqB_ready hL.1) (by kernel_rfl) (by kernel_rfl) (fun _ _ _ h => h) HSC.out (.inl ⟨by kernel_rfl, by intro w hSw; rw [HSd.out] at hSw; obtain ⟨⟨e0, f0, l0⟩, ⟨e1, e2, e3, l1⟩⟩ := hSw; go_simp⟩) ?_
      simp only [Act.put, List.setIfInBounds_toArray]
      refine HeadW.take 1 (v := pv gp) rfl (by kernel_rfl) (by kernel_rfl) (by kernel_rfl) (by decide) (by decide) (fun _ _ _ hL => seqB_ready hL.1) (by kernel_rfl) (by kernel_rfl) (fun _ _ _ h => h) HSC.out (.inl ⟨by kernel_rfl, by intro w hSw; rw [HSd.out] at hSw; obtain ⟨⟨e0, f0, l0⟩, ⟨e1, e2, e3, l1⟩⟩ := hSw; go_simp⟩) ?_
      simp only [Act.put]
      refine HeadW.take 2 (v := pv gp) rfl (by kernel_rfl) (by kernel_rfl) (by kernel_rfl) (by decide) (by decide) (fun _ _ _ hL => seqB_ready hL.1) (by kernel_rfl) (by kernel_rfl) (fun _ _ _ h => h) HSC.out (.inl ⟨by kernel_rfl, by intro w hSw; rw [HSd.out] at hSw; obtain ⟨⟨e0, f0, l0⟩, ⟨e1, e2, e3, l1⟩⟩ := hSw; go_simp⟩) ?_
      simp only [Act.put]
      refine HeadW.take 3 (v := .pointer (some ⟨gp, 3, none⟩)) rfl (by kernel_rfl) (by kernel_rfl) (by kernel_rfl) (by decide) (by decide) (fun _ _ _ hL => seqB_ready hL.1) (by kernel_rfl) (by kernel_rfl) (fun _ _ _ h => h) HSC.out (.inl ⟨by kernel_rfl, by intro w hSw; rw [HSd.out] at hSw; obtain ⟨⟨e0, f0, l0⟩, ⟨e1, e2, e3, l1⟩⟩ := hSw; go_simp⟩) ?_
      simp only [Act.put]
      refine HeadW.take 4 (v := .slice l.AT st.told.length l.cT) rfl (by kernel_rfl) (by kernel_rfl) (by kernel_rfl) (by decide) (by decide) (fun _ _ _ hL => seqB_ready hL.1) (by kernel_rfl) (by kernel_rfl) (fun _ _ _ h => h) HSC.out (.inl ⟨by kernel_rfl, by intro w hSw; rw [HSd.out] at hSw; obtain ⟨⟨e0, f0, l0⟩, ⟨e1, e2, e3, l1⟩⟩ := hSw; go_simp⟩) ?_
      simp only [Act.put]
      refine HeadW.take 5 (v := .agg #[.int .i64 1, .int .i64 g.n, .slice t.1 g.b.length t.2]) rfl (by kernel_rfl) (by kernel_rfl) (by kernel_rfl) (by decide) (by decide) (fun _ _ _ hL => seqB_ready hL.1) (by kernel_rfl) (by kernel_rfl) (fun _ _ _ h => h) HSC.out (.inl ⟨by kernel_rfl, by intro w hSw; rw [HSd.out] at hSw; obtain ⟨⟨e0, f0, l0⟩, ⟨e1, e2, e3, l1⟩⟩ := hSw; go_simp⟩) ?_
      simp only [Act.put]
      clear s4 sf4 sl5 k0 k1 k2 kl r2 r2l
      refine headW_one 6 rfl (by decide) (by kernel_rfl) (by kernel_rfl) fun K hK => ?_
      go_simp
      obtain ⟨w6, hw6⟩ : ∃ w', w' = (w5.alloc (.cells #[.int .i64 1, .int .i64 g.n, .slice t.1 g.b.length t.2] 71)).drew := ⟨_, rfl⟩
      rw [← hw6]
      have hb56 : Below w5.heap.size w5 w6 := by rw [hw6]; exact ((Below.refl _ _).alloc (Nat.le_refl _) _).drew
      have hU6 : Blk w6 w5.heap.size 71 #[.int .i64 1, .int .i64 g.n, .slice t.1 g.b.length t.2] := by rw [hw6]; exact Blk.new w5 _ _
      have HS6 := Lib.hid (HS5.out.below hb56)
      have HG6 := Lib.hid (HG5.out.below hb56 HG5.out.lt)
      have HB6 := Lib.hid (HB5.out.only (S := fun _ => False) (Only.of_fresh hb56) fun _ _ h => h)
      have HRf6 := Lib.hid (HRf5.out.below hb56)
      have HU6 := Lib.hid hU6
      have HOw6 := Lib.hid (HOw5.out.trans (Only.of_fresh hb56))
      have hB6 : B ≤ w6.heap.size := by have := HOw6.out.size; omega
      have hSC6 : SC w6 := by rw [HSd.out]; exact ⟨⟨HS6.out.blk.cell 3, HS6.out.blk.frozen 3, HS6.out.blk.lt⟩, ⟨HG6.out.cell 0, HG6.out.cell 1, HG6.out.cell 2, HG6.out.lt⟩⟩
      refine hK.out _ _ hSC6 (fun hHeld => ?_)
      clear hK K hHeld hw6 hb56 hU6 hSC6 HSC
      refine headW_one 7 rfl (by decide) (by kernel_rfl) (by kernel_rfl) fun K hK => ?_
      refine wp_app (.tmp 74) (.tmp 76) eGot rfl rfl HS6.out.tol (A' := some ⟨w5.heap.size, 0, none⟩) (m := 1) (c' := 1) (us := [.int .i64 1, .int .i64 g.n, .slice t.1 g.b.length t.2]) rfl (RV.of_blk HU6.out) rfl (by intro v hv; simp only [List.mem_cons, List.not_mem_nil, or_false] at hv; rcases hv with rfl | rfl | rfl <;> rfl) (by unfold maxLen; omega) (by omega) hB6 (by intro h; cases h) ?_
      intro A2 c2 w7 ho7 hg7 hA7
      have hO7 : Only (fun b => l.AT.map (·.block) = some b) w6 w7 := Only.of_grown hg7 fun k e => e
      have hS7 := HS6.out.blk.only hO7 (fun e => own_blk_ne2 HS6.out.tol HS6.out.blk (by decide) e)
      have hG7 := HG6.out.only hO7 (fun e => by
        have h3 := (Own.row HS.out.tol gg e).2
        omega)
      have hSC7 : SC w7 := by rw [HSd.out]; exact ⟨⟨hS7.cell 3, hS7.frozen 3, hS7.lt⟩, ⟨hG7.cell 0, hG7.cell 1, hG7.cell 2, hG7.lt⟩⟩
      refine hK.out _ _ hSC7 (fun hHeld => ?_)
      obtain ⟨hSn, hOn⟩ := HS6.out.tell HB6.out (by rw [show gotCells g t = [.int .i64 1, .int .i64 g.n, .slice t.1 g.b.length t.2] from by unfold gotCells; rw [Hgk.out, hk1]]; exact ho7) hg7
      have hlow : ∀ b, b = gp ∨ l.AT.map (·.block) = some b → B ≤ b := fun b e => by
        rcases e with e | e
        · rw [e]; exact HS.out.low
        · exact (Own.row HS.out.tol b e).1
      have hRn := HRf6.out.only hOn (fun b cs hb e => by
        rcases e with e | e
        · rw [e] at hb; exact absurd (blkT_eq hb.ty HS6.out.blk.ty) (by decide)
        · obtain ⟨h1, -, -⟩ := ownG_form HS6.out.tol b e
          obtain ⟨cs2, h2⟩ := own_ty HS6.out.tol h1
          exact absurd (blkT_eq hb.ty h2.ty) (by decide)) hlow
      have Hpost := Lib.hid (show PCallPost B gp AC nC cC st gs TA l c w (.returned (.tuple #[])) (w7.setCell ⟨gp, 3, none⟩ (.slice A2 (st.told.length + 1) c2)) from by
        unfold PCallPost
        rw [Hca.out, Hcr.out]
        have hj := Hj.out
        refine ⟨rfl, (HOw6.out.mono fun b _ e => by rw [e]; exact hBm).trans (hOn.mono fun b _ e => hlow b e), t, _, hSn, ?_⟩
        show RfM _ B gs (st.rs.set (st.jOf c) ((st.rs.getD (st.jOf c) ([], 0)).1, a)) none
        rw [← hj, List.getD_eq_getElem?_getD, Hr.out]
        exact hRn)
      have t4 : w7.cell? ⟨gp, 3, none⟩ = some (.slice l.AT st.told.length l.cT) := hS7.cell 3
      have tf4 := hS7.frozen 3
      have tl7 := hS7.lt
      clear hK K hHeld ho7 hg7 hA7 hO7 hS7 hG7 hSC7 hSn hOn hRn HSd hlow
      refine fun hInv => ⟨by kernel_rfl, ?_⟩
      clear hInv
      simp only [List.drop_succ_cons, List.drop_zero]
      clear SC
      go_wp2_with fail
      go_end0
      exact Hpost.out
    · have hG4 := HG3.out.only hO4 (fun e => by have h := HRd3.out.blk.ty; rw [← e] at h; exact absurd (blkT_eq h HG3.out.ty) (by decide))
      have herr := PcErr.item (.cells #[.int .i64 1, .int .i64 0, .slice none 0 0] 30) HAg.out hG4 hR4 hO4 hcr
      rw [hk1]
      have g1 : w4.cell? ⟨gg, 1, none⟩ = some (.int .i64 0) := hG4.cell 1
      have g2 : w4.cell? ⟨gg, 2, none⟩ = some (.slice none 0 0) := hG4.cell 2
      have gf := hG4.frozen 1
      have gf2 := hG4.frozen 2
      have gl := hG4.lt
      have hf := callR_err herr.call
      obtain ⟨w5, hw5⟩ : ∃ w', w' = ((w4.setCell ⟨gg, 1, none⟩ (.int .i64 0)).setCell ⟨gg, 2, none⟩ (.slice none 0 0)).alloc (.cells #[.int .i64 1, .int .i64 0, .slice none 0 0] 30) := ⟨_, rfl⟩
      have herr := show PcErr w3 c gm mA mc r gg (f) w5 from by rw [hw5]; exact herr
      have Hw5 := Lib.hid hw5
      obtain ⟨a5, hR5⟩ := herr.rd
      have hOw5 : Only (fun b => b = gm) w w5 := (Only.of_fresh Hb3.out).more herr.only fun b hb e => e.resolve_right (by omega)
      have hS5 := HS.out.only hOw5 (fun b ty hb ht e => by rw [e] at hb; exact ht (blkT_eq hb HRd0.out.blk.ty))
      have hRf5 := (HR.out.go Hm.out Hr.out HAB.out Hsl.out Hrl.out hOw5 hR5).2
      have r2 : w5.cell? ⟨gm, 2, none⟩ = some (.int .i64 (f)) := hR5.c2
      have r2l := hR5.blk.lt
      have Hpost := Lib.hid (show PCallPost B gp AC nC cC st gs TA l c w (.returned (.tuple #[])) w5 from by
        unfold PCallPost
        rw [Hca.out, herr.call]
        have hj := Hj.out
        refine ⟨rfl, hOw5.mono fun b _ e => by rw [e]; exact hBm, hS5, ?_⟩
        rw [← hj]
        exact hRf5)
      clear hw5 herr hR5 hOw5 hS5 hRf5 hG4 hR4 hO4 hcr
      go_upto_region 19 with (fail)
      rw [← Hw5.out]
      clear Hw5 g1 g2 gf gf2 gl
      go_wp2_with fail
      go_end0
      exact Hpost.out
  by_cases hk2 : c.kind = 2
  · as_aux_lemma =>
    have hc := refRead_any c (by omega) gm mc r.2 mA r.1 w3 HRd3.out (by have := Hrl.out.1; omega) Hrl.out.2 Hsl.out.nil
    rw [hk2] at hc
    have Hc := Lib.hid hc
    clear hc
    go_wp2_with fail
    refine Hc.out.mono ?_
    clear Hc
    rintro e w4 ⟨hO4, ⟨x, a, A5, c5, hcr, hxk, rfl, hB4, hR4⟩ | ⟨f, a, hcr, rfl, hR4⟩⟩
    · have hG4 := HG3.out.only hO4 (fun e => by have h := HRd3.out.blk.ty; rw [← e] at h; exact absurd (blkT_eq h HG3.out.ty) (by decide))
      have hmid := PcOk.item (.cells #[.int .i64 2, .int .i64 x.n, .slice A5 x.b.length c5] 30) HAg.out hG4 hR4 hB4 hO4 hcr hxk
      rw [hk2]
      have g1 : w4.cell? ⟨gg, 1, none⟩ = some (.int .i64 0) := hG4.cell 1
      have g2 : w4.cell? ⟨gg, 2, none⟩ = some (.slice none 0 0) := hG4.cell 2
      have gf := hG4.frozen 1
      have gf2 := hG4.frozen 2
      have gl := hG4.lt
      obtain ⟨w5, hw5⟩ : ∃ w', w' = ((w4.setCell ⟨gg, 1, none⟩ (.int .i64 x.n)).setCell ⟨gg, 2, none⟩ (.slice A5 x.b.length c5)).alloc (.cells #[.int .i64 2, .int .i64 x.n, .slice A5 x.b.length c5] 30) := ⟨_, rfl⟩
      have hmid := show PcOk w3 c gm mA mc r gg w5 from by rw [hw5]; exact hmid
      have Hw5 := Lib.hid hw5
      obtain ⟨g, a, t, hcr, hgk, hG5, hB5, hR5, hO5⟩ := hmid.out
      rw [hk2] at hG5
      have hOw5 : Only (fun b => b = gm) w w5 := (Only.of_fresh Hb3.out).more hO5 fun b hb e => e.resolve_right (by omega)
      have hS5 := HS.out.only hOw5 (fun b ty hb ht e => by rw [e] at hb; exact ht (blkT_eq hb HRd0.out.blk.ty))
      have HRf5 := Lib.hid ((HR.out.go Hm.out Hr.out HAB.out Hsl.out Hrl.out hOw5 hR5).1 rfl)
      have HS5 := Lib.hid hS5
      have HB5 := Lib.hid hB5
      have Hcr := Lib.hid hcr
      have Hgk := Lib.hid hgk
      have HOw5 := Lib.hid hOw5
      have r2 : w5.cell? ⟨gm, 2, none⟩ = some (.int .i64 0) := hR5.c2
      have r2l := hR5.blk.lt
      have HR5 := Lib.hid hR5
      have s4 : w5.cell? ⟨gp, 3, none⟩ = some (.slice l.AT st.told.length l.cT) := hS5.blk.cell 3
      have sf4 := hS5.blk.frozen 3
      have sl5 := hS5.blk.lt
      have k0 : w5.cell? ⟨gg, 0, none⟩ = some (.int .i64 2) := hG5.cell 0
      have k1 : w5.cell? ⟨gg, 1, none⟩ = some (.int .i64 g.n) := hG5.cell 1
      have k2 : w5.cell? ⟨gg, 2, none⟩ = some (.slice t.1 g.b.length t.2) := hG5.cell 2
      have kl := hG5.lt
      have HG5 := Lib.hid hG5
      clear hw5 hmid hcr hgk hG5 hB5 hO5 hOw5 hS5 hR5 hG4 hB4 hxk hR4 hO4
      go_upto_region 19 with (fail)
      rw [← Hw5.out]
      clear Hw5 g1 g2 gf gf2 gl
      go_upto_region 20 with (fail)
      obtain ⟨SC, hSCd⟩ : ∃ S : World → Prop, S = fun w' => (w'.cell? ⟨gp, 3, none⟩ = some (.slice l.AT st.told.length l.cT) ∧ w'.frozen? ⟨gp, 3, none⟩ = false ∧ gp < w'.heap.size) ∧ (w'.cell? ⟨gg, 0, none⟩ = some (.int .i64 2) ∧ w'.cell? ⟨gg, 1, none⟩ = some (.int .i64 g.n) ∧ w'.cell? ⟨gg, 2, none⟩ = some (.slice t.1 g.b.length t.2) ∧ gg < w'.heap.size) := ⟨_, rfl⟩
      have hSC : SC w5.drew := by rw [hSCd]; exact ⟨⟨s4, sf4, sl5⟩, ⟨k0, k1, k2, kl⟩⟩
      have HSC := Lib.hid (show SC w5.drew from hSC)
      have HSd := Lib.hid hSCd
      clear hSC hSCd
      refine region_heldT 8 SC (by kernel_rfl) (by decide) ?_
      refine HeadW.take 0 (v := pv gp) rfl (by kernel_rfl) (by kernel_rfl) (by kernel_rfl) (by decide) (by decide) (fun _ _ _ hL => seqB_ready hL.1) (by kernel_rfl) (by kernel_rfl) (fun _ _ _ h => h) HSC.out (.inl ⟨by kernel_rfl, by intro w hSw; rw [HSd.out] at hSw; obtain ⟨⟨e0, f0, l0⟩, ⟨e1, e2, e3, l1⟩⟩ := hSw; go_simp⟩) ?_
      simp only [Act.put, List.setIfInBounds_toArray]
      refine HeadW.take 1 (v := pv gp) rfl (by kernel_rfl) (by kernel_rfl) (by kernel_rfl) (by decide) (by decide) (fun _ _ _ hL => seqB_ready hL.1) (by kernel_rfl) (by kernel_rfl) (fun _ _ _ h => h) HSC.out (.inl ⟨by kernel_rfl, by intro w hSw; rw [HSd.out] at hSw; obtain ⟨⟨e0, f0, l0⟩, ⟨e1, e2, e3, l1⟩⟩ := hSw; go_simp⟩) ?_
      simp only [Act.put]
      refine HeadW.take 2 (v := pv gp) rfl (by kernel_rfl) (by kernel_rfl) (by kernel_rfl) (by decide) (by decide) (fun _ _ _ hL => seqB_ready hL.1) (by kernel_rfl) (by kernel_rfl) (fun _ _ _ h => h) HSC.out (.inl ⟨by kernel_rfl, by intro w hSw; rw [HSd.out] at hSw; obtain ⟨⟨e0, f0, l0⟩, ⟨e1, e2, e3, l1⟩⟩ := hSw; go_simp⟩) ?_
      simp only [Act.put]
      refine HeadW.take 3 (v := .pointer (some ⟨gp, 3, none⟩)) rfl (by kernel_rfl) (by kernel_rfl) (by kernel_rfl) (by decide) (by decide) (fun _ _ _ hL => seqB_ready hL.1) (by kernel_rfl) (by kernel_rfl) (fun _ _ _ h => h) HSC.out (.inl ⟨by kernel_rfl, by intro w hSw; rw [HSd.out] at hSw; obtain ⟨⟨e0, f0, l0⟩, ⟨e1, e2, e3, l1⟩⟩ := hSw; go_simp⟩) ?_
      simp only [Act.put]
      refine HeadW.take 4 (v := .slice l.AT st.told.length l.cT) rfl (by kernel_rfl) (by kernel_rfl) (by kernel_rfl) (by decide) (by decide) (fun _ _ _ hL => seqB_ready hL.1) (by kernel_rfl) (by kernel_rfl) (fun _ _ _ h => h) HSC.out (.inl ⟨by kernel_rfl, by intro w hSw; rw [HSd.out] at hSw; obtain ⟨⟨e0, f0, l0⟩, ⟨e1, e2, e3, l1⟩⟩ := hSw; go_simp⟩) ?_
      simp only [Act.put]
      refine HeadW.take 5 (v := .agg #[.int .i64 2, .int .i64 g.n, .slice t.1 g.b.length t.2]) rfl (by kernel_rfl) (by kernel_rfl) (by kernel_rfl) (by decide) (by decide) (fun _ _ _ hL => seqB_ready hL.1) (by kernel_rfl) (by kernel_rfl) (fun _ _ _ h => h) HSC.out (.inl ⟨by kernel_rfl, by intro w hSw; rw [HSd.out] at hSw; obtain ⟨⟨e0, f0, l0⟩, ⟨e1, e2, e3, l1⟩⟩ := hSw; go_simp⟩) ?_
      simp only [Act.put]
      clear s4 sf4 sl5 k0 k1 k2 kl r2 r2l
      refine headW_one 6 rfl (by decide) (by kernel_rfl) (by kernel_rfl) fun K hK => ?_
      go_simp
      obtain ⟨w6, hw6⟩ : ∃ w', w' = (w5.alloc (.cells #[.int .i64 2, .int .i64 g.n, .slice t.1 g.b.length t.2] 71)).drew := ⟨_, rfl⟩
      rw [← hw6]
      have hb56 : Below w5.heap.size w5 w6 := by rw [hw6]; exact ((Below.refl _ _).alloc (Nat.le_refl _) _).drew
      have hU6 : Blk w6 w5.heap.size 71 #[.int .i64 2, .int .i64 g.n, .slice t.1 g.b.length t.2] := by rw [hw6]; exact Blk.new w5 _ _
      have HS6 := Lib.hid (HS5.out.below hb56)
      have HG6 := Lib.hid (HG5.out.below hb56 HG5.out.lt)
      have HB6 := Lib.hid (HB5.out.only (S := fun _ => False) (Only.of_fresh hb56) fun _ _ h => h)
      have HRf6 := Lib.hid (HRf5.out.below hb56)
      have HU6 := Lib.hid hU6
      have HOw6 := Lib.hid (HOw5.out.trans (Only.of_fresh hb56))
      have hB6 : B ≤ w6.heap.size := by have := HOw6.out.size; omega
      have hSC6 : SC w6 := by rw [HSd.out]; exact ⟨⟨HS6.out.blk.cell 3, HS6.out.blk.frozen 3, HS6.out.blk.lt⟩, ⟨HG6.out.cell 0, HG6.out.cell 1, HG6.out.cell 2, HG6.out.lt⟩⟩
      refine hK.out _ _ hSC6 (fun hHeld => ?_)
      clear hK K hHeld hw6 hb56 hU6 hSC6 HSC
      refine headW_one 7 rfl (by decide) (by kernel_rfl) (by kernel_rfl) fun K hK => ?_
      refine wp_app (.tmp 74) (.tmp 76) eGot rfl rfl HS6.out.tol (A' := some ⟨w5.heap.size, 0, none⟩) (m := 1) (c' := 1) (us := [.int .i64 2, .int .i64 g.n, .slice t.1 g.b.length t.2]) rfl (RV.of_blk HU6.out) rfl (by intro v hv; simp only [List.mem_cons, List.not_mem_nil, or_false] at hv; rcases hv with rfl | rfl | rfl <;> rfl) (by unfold maxLen; omega) (by omega) hB6 (by intro h; cases h) ?_
      intro A2 c2 w7 ho7 hg7 hA7
      have hO7 : Only (fun b => l.AT.map (·.block) = some b) w6 w7 := Only.of_grown hg7 fun k e => e
      have hS7 := HS6.out.blk.only hO7 (fun e => own_blk_ne2 HS6.out.tol HS6.out.blk (by decide) e)
      have hG7 := HG6.out.only hO7 (fun e => by
        have h3 := (Own.row HS.out.tol gg e).2
        omega)
      have hSC7 : SC w7 := by rw [HSd.out]; exact ⟨⟨hS7.cell 3, hS7.frozen 3, hS7.lt⟩, ⟨hG7.cell 0, hG7.cell 1, hG7.cell 2, hG7.lt⟩⟩
      refine hK.out _ _ hSC7 (fun hHeld => ?_)
      obtain ⟨hSn, hOn⟩ := HS6.out.tell HB6.out (by rw [show gotCells g t = [.int .i64 2, .int .i64 g.n, .slice t.1 g.b.length t.2] from by unfold gotCells; rw [Hgk.out, hk2]]; exact ho7) hg7
      have hlow : ∀ b, b = gp ∨ l.AT.map (·.block) = some b → B ≤ b := fun b e => by
        rcases e with e | e
        · rw [e]; exact HS.out.low
        · exact (Own.row HS.out.tol b e).1
      have hRn := HRf6.out.only hOn (fun b cs hb e => by
        rcases e with e | e
        · rw [e] at hb; exact absurd (blkT_eq hb.ty HS6.out.blk.ty) (by decide)
        · obtain ⟨h1, -, -⟩ := ownG_form HS6.out.tol b e
          obtain ⟨cs2, h2⟩ := own_ty HS6.out.tol h1
          exact absurd (blkT_eq hb.ty h2.ty) (by decide)) hlow
      have Hpost := Lib.hid (show PCallPost B gp AC nC cC st gs TA l c w (.returned (.tuple #[])) (w7.setCell ⟨gp, 3, none⟩ (.slice A2 (st.told.length + 1) c2)) from by
        unfold PCallPost
        rw [Hca.out, Hcr.out]
        have hj := Hj.out
        refine ⟨rfl, (HOw6.out.mono fun b _ e => by rw [e]; exact hBm).trans (hOn.mono fun b _ e => hlow b e), t, _, hSn, ?_⟩
        show RfM _ B gs (st.rs.set (st.jOf c) ((st.rs.getD (st.jOf c) ([], 0)).1, a)) none
        rw [← hj, List.getD_eq_getElem?_getD, Hr.out]
        exact hRn)
      have t4 : w7.cell? ⟨gp, 3, none⟩ = some (.slice l.AT st.told.length l.cT) := hS7.cell 3
      have tf4 := hS7.frozen 3
      have tl7 := hS7.lt
      clear hK K hHeld ho7 hg7 hA7 hO7 hS7 hG7 hSC7 hSn hOn hRn HSd hlow
      refine fun hInv => ⟨by kernel_rfl, ?_⟩
      clear hInv
      simp only [List.drop_succ_cons, List.drop_zero]
      clear SC
      go_wp2_with fail
      go_end0
      exact Hpost.out
    · have hG4 := HG3.out.only hO4 (fun e => by have h := HRd3.out.blk.ty; rw [← e] at h; exact absurd (blkT_eq h HG3.out.ty) (by decide))
      have herr := PcErr.item (.cells #[.int .i64 2, .int .i64 0, .slice none 0 0] 30) HAg.out hG4 hR4 hO4 hcr
      rw [hk2]
      have g1 : w4.cell? ⟨gg, 1, none⟩ = some (.int .i64 0) := hG4.cell 1
      have g2 : w4.cell? ⟨gg, 2, none⟩ = some (.slice none 0 0) := hG4.cell 2
      have gf := hG4.frozen 1
      have gf2 := hG4.frozen 2
      have gl := hG4.lt
      have hf := callR_err herr.call
      obtain ⟨w5, hw5⟩ : ∃ w', w' = ((w4.setCell ⟨gg, 1, none⟩ (.int .i64 0)).setCell ⟨gg, 2, none⟩ (.slice none 0 0)).alloc (.cells #[.int .i64 2, .int .i64 0, .slice none 0 0] 30) := ⟨_, rfl⟩
      have herr := show PcErr w3 c gm mA mc r gg (f) w5 from by rw [hw5]; exact herr
      have Hw5 := Lib.hid hw5
      obtain ⟨a5, hR5⟩ := herr.rd
      have hOw5 : Only (fun b => b = gm) w w5 := (Only.of_fresh Hb3.out).more herr.only fun b hb e => e.resolve_right (by omega)
      have hS5 := HS.out.only hOw5 (fun b ty hb ht e => by rw [e] at hb; exact ht (blkT_eq hb HRd0.out.blk.ty))
      have hRf5 := (HR.out.go Hm.out Hr.out HAB.out Hsl.out Hrl.out hOw5 hR5).2
      have r2 : w5.cell? ⟨gm, 2, none⟩ = some (.int .i64 (f)) := hR5.c2
      have r2l := hR5.blk.lt
      have Hpost := Lib.hid (show PCallPost B gp AC nC cC st gs TA l c w (.returned (.tuple #[])) w5 from by
        unfold PCallPost
        rw [Hca.out, herr.call]
        have hj := Hj.out
        refine ⟨rfl, hOw5.mono fun b _ e => by rw [e]; exact hBm, hS5, ?_⟩
        rw [← hj]
        exact hRf5)
      clear hw5 herr hR5 hOw5 hS5 hRf5 hG4 hR4 hO4 hcr
      go_upto_region 19 with (fail)
      rw [← Hw5.out]
      clear Hw5 g1 g2 gf gf2 gl
      go_wp2_with fail
      go_end0
      exact Hpost.out
  by_cases hk3 : c.kind = 3
  · as_aux_lemma =>
    have hc := refRead_any c (by omega) gm mc r.2 mA r.1 w3 HRd3.out (by have := Hrl.out.1; omega) Hrl.out.2 Hsl.out.nil
    rw [hk3] at hc
    have Hc := Lib.hid hc
    clear hc
    go_wp2_with fail
    refine Hc.out.mono ?_
    clear Hc
    rintro e w4 ⟨hO4, ⟨x, a, A5, c5, hcr, hxk, rfl, hB4, hR4⟩ | ⟨f, a, hcr, rfl, hR4⟩⟩
    · have hG4 := HG3.out.only hO4 (fun e => by have h := HRd3.out.blk.ty; rw [← e] at h; exact absurd (blkT_eq h HG3.out.ty) (by decide))
      have hmid := PcOk.item (.cells #[.int .i64 3, .int .i64 x.n, .slice A5 x.b.length c5] 30) HAg.out hG4 hR4 hB4 hO4 hcr hxk
      rw [hk3]
      have g1 : w4.cell? ⟨gg, 1, none⟩ = some (.int .i64 0) := hG4.cell 1
      have g2 : w4.cell? ⟨gg, 2, none⟩ = some (.slice none 0 0) := hG4.cell 2
      have gf := hG4.frozen 1
      have gf2 := hG4.frozen 2
      have gl := hG4.lt
      obtain ⟨w5, hw5⟩ : ∃ w', w' = ((w4.setCell ⟨gg, 1, none⟩ (.int .i64 x.n)).setCell ⟨gg, 2, none⟩ (.slice A5 x.b.length c5)).alloc (.cells #[.int .i64 3, .int .i64 x.n, .slice A5 x.b.length c5] 30) := ⟨_, rfl⟩
      have hmid := show PcOk w3 c gm mA mc r gg w5 from by rw [hw5]; exact hmid
      have Hw5 := Lib.hid hw5
      obtain ⟨g, a, t, hcr, hgk, hG5, hB5, hR5, hO5⟩ := hmid.out
      rw [hk3] at hG5
      have hOw5 : Only (fun b => b = gm) w w5 := (Only.of_fresh Hb3.out).more hO5 fun b hb e => e.resolve_right (by omega)
      have hS5 := HS.out.only hOw5 (fun b ty hb ht e => by rw [e] at hb; exact ht (blkT_eq hb HRd0.out.blk.ty))
      have HRf5 := Lib.hid ((HR.out.go Hm.out Hr.out HAB.out Hsl.out Hrl.out hOw5 hR5).1 rfl)
      have HS5 := Lib.hid hS5
      have HB5 := Lib.hid hB5
      have Hcr := Lib.hid hcr
      have Hgk := Lib.hid hgk
      have HOw5 := Lib.hid hOw5
      have r2 : w5.cell? ⟨gm, 2, none⟩ = some (.int .i64 0) := hR5.c2
      have r2l := hR5.blk.lt
      have HR5 := Lib.hid hR5
      have s4 : w5.cell? ⟨gp, 3, none⟩ = some (.slice l.AT st.told.length l.cT) := hS5.blk.cell 3
      have sf4 := hS5.blk.frozen 3
      have sl5 := hS5.blk.lt
      have k0 : w5.cell? ⟨gg, 0, none⟩ = some (.int .i64 3) := hG5.cell 0
      have k1 : w5.cell? ⟨gg, 1, none⟩ = some (.int .i64 g.n) := hG5.cell 1
      have k2 : w5.cell? ⟨gg, 2, none⟩ = some (.slice t.1 g.b.length t.2) := hG5.cell 2
      have kl := hG5.lt
      have HG5 := Lib.hid hG5
      clear hw5 hmid hcr hgk hG5 hB5 hO5 hOw5 hS5 hR5 hG4 hB4 hxk hR4 hO4
      go_upto_region 19 with (fail)
      rw [← Hw5.out]
      clear Hw5 g1 g2 gf gf2 gl
      go_upto_region 20 with (fail)
      obtain ⟨SC, hSCd⟩ : ∃ S : World → Prop, S = fun w' => (w'.cell? ⟨gp, 3, none⟩ = some (.slice l.AT st.told.length l.cT) ∧ w'.frozen? ⟨gp, 3, none⟩ = false ∧ gp < w'.heap.size) ∧ (w'.cell? ⟨gg, 0, none⟩ = some (.int .i64 3) ∧ w'.cell? ⟨gg, 1, none⟩ = some (.int .i64 g.n) ∧ w'.cell? ⟨gg, 2, none⟩ = some (.slice t.1 g.b.length t.2) ∧ gg < w'.heap.size) := ⟨_, rfl⟩
      have hSC : SC w5.drew := by rw [hSCd]; exact ⟨⟨s4, sf4, sl5⟩, ⟨k0, k1, k2, kl⟩⟩
      have HSC := Lib.hid (show SC w5.drew from hSC)
      have HSd := Lib.hid hSCd
      clear hSC hSCd
      refine region_heldT 8 SC (by kernel_rfl) (by decide) ?_
      refine HeadW.take 0 (v := pv gp) rfl (by kernel_rfl) (by kernel_rfl) (by kernel_rfl) (by decide) (by decide) (fun _ _ _ hL => seqB_ready hL.1) (by kernel_rfl) (by kernel_rfl) (fun _ _ _ h => h) HSC.out (.inl ⟨by kernel_rfl, by intro w hSw; rw [HSd.out] at hSw; obtain ⟨⟨e0, f0, l0⟩, ⟨e1, e2, e3, l1⟩⟩ := hSw; go_simp⟩) ?_
      simp only [Act.put, List.setIfInBounds_toArray]
      refine HeadW.take 1 (v := pv gp) rfl (by kernel_rfl) (by kernel_rfl) (by kernel_rfl) (by decide) (by decide) (fun _ _ _ hL => seqB_ready hL.1) (by kernel_rfl) (by kernel_rfl) (fun _ _ _ h => h) HSC.out (.inl ⟨by kernel_rfl, by intro w hSw; rw [HSd.out] at hSw; obtain ⟨⟨e0, f0, l0⟩, ⟨e1, e2, e3, l1⟩⟩ := hSw; go_simp⟩) ?_
      simp only [Act.put]
      refine HeadW.take 2 (v := pv gp) rfl (by kernel_rfl) (by kernel_rfl) (by kernel_rfl) (by decide) (by decide) (fun _ _ _ hL => seqB_ready hL.1) (by kernel_rfl) (by kernel_rfl) (fun _ _ _ h => h) HSC.out (.inl ⟨by kernel_rfl, by intro w hSw; rw [HSd.out] at hSw; obtain ⟨⟨e0, f0, l0⟩, ⟨e1, e2, e3, l1⟩⟩ := hSw; go_simp⟩) ?_
      simp only [Act.put]
      refine HeadW.take 3 (v := .pointer (some ⟨gp, 3, none⟩)) rfl (by kernel_rfl) (by kernel_rfl) (by kernel_rfl) (by decide) (by decide) (fun _ _ _ hL => seqB_ready hL.1) (by kernel_rfl) (by kernel_rfl) (fun _ _ _ h => h) HSC.out (.inl ⟨by kernel_rfl, by intro w hSw; rw [HSd.out] at hSw; obtain ⟨⟨e0, f0, l0⟩, ⟨e1, e2, e3, l1⟩⟩ := hSw; go_simp⟩) ?_
      simp only [Act.put]
      refine HeadW.take 4 (v := .slice l.AT st.told.length l.cT) rfl (by kernel_rfl) (by kernel_rfl) (by kernel_rfl) (by decide) (by decide) (fun _ _ _ hL => seqB_ready hL.1) (by kernel_rfl) (by kernel_rfl) (fun _ _ _ h => h) HSC.out (.inl ⟨by kernel_rfl, by intro w hSw; rw [HSd.out] at hSw; obtain ⟨⟨e0, f0, l0⟩, ⟨e1, e2, e3, l1⟩⟩ := hSw; go_simp⟩) ?_
      simp only [Act.put]
      refine HeadW.take 5 (v := .agg #[.int .i64 3, .int .i64 g.n, .slice t.1 g.b.length t.2]) rfl (by kernel_rfl) (by kernel_rfl) (by kernel_rfl) (by decide) (by decide) (fun _ _ _ hL => seqB_ready hL.1) (by kernel_rfl) (by kernel_rfl) (fun _ _ _ h => h) HSC.out (.inl ⟨by kernel_rfl, by intro w hSw; rw [HSd.out] at hSw; obtain ⟨⟨e0, f0, l0⟩, ⟨e1, e2, e3, l1⟩⟩ := hSw; go_simp⟩) ?_
      simp only [Act.put]
      clear s4 sf4 sl5 k0 k1 k2 kl r2 r2l
      refine headW_one 6 rfl (by decide) (by kernel_rfl) (by kernel_rfl) fun K hK => ?_
      go_simp
      obtain ⟨w6, hw6⟩ : ∃ w', w' = (w5.alloc (.cells #[.int .i64 3, .int .i64 g.n, .slice t.1 g.b.length t.2] 71)).drew := ⟨_, rfl⟩
      rw [← hw6]
      have hb56 : Below w5.heap.size w5 w6 := by rw [hw6]; exact ((Below.refl _ _).alloc (Nat.le_refl _) _).drew
      have hU6 : Blk w6 w5.heap.size 71 #[.int .i64 3, .int .i64 g.n, .slice t.1 g.b.length t.2] := by rw [hw6]; exact Blk.new w5 _ _
      have HS6 := Lib.hid (HS5.out.below hb56)
      have HG6 := Lib.hid (HG5.out.below hb56 HG5.out.lt)
      have HB6 := Lib.hid (HB5.out.only (S := fun _ => False) (Only.of_fresh hb56) fun _ _ h => h)
      have HRf6 := Lib.hid (HRf5.out.below hb56)
      have HU6 := Lib.hid hU6
      have HOw6 := Lib.hid (HOw5.out.trans (Only.of_fresh hb56))
      have hB6 : B ≤ w6.heap.size := by have := HOw6.out.size; omega
      have hSC6 : SC w6 := by rw [HSd.out]; exact ⟨⟨HS6.out.blk.cell 3, HS6.out.blk.frozen 3, HS6.out.blk.lt⟩, ⟨HG6.out.cell 0, HG6.out.cell 1, HG6.out.cell 2, HG6.out.lt⟩⟩
      refine hK.out _ _ hSC6 (fun hHeld => ?_)
      clear hK K hHeld hw6 hb56 hU6 hSC6 HSC
      refine headW_one 7 rfl (by decide) (by kernel_rfl) (by kernel_rfl) fun K hK => ?_
      refine wp_app (.tmp 74) (.tmp 76) eGot rfl rfl HS6.out.tol (A' := some ⟨w5.heap.size, 0, none⟩) (m := 1) (c' := 1) (us := [.int .i64 3, .int .i64 g.n, .slice t.1 g.b.length t.2]) rfl (RV.of_blk HU6.out) rfl (by intro v hv; simp only [List.mem_cons, List.not_mem_nil, or_false] at hv; rcases hv with rfl | rfl | rfl <;> rfl) (by unfold maxLen; omega) (by omega) hB6 (by intro h; cases h) ?_
      intro A2 c2 w7 ho7 hg7 hA7
      have hO7 : Only (fun b => l.AT.map (·.block) = some b) w6 w7 := Only.of_grown hg7 fun k e => e
      have hS7 := HS6.out.blk.only hO7 (fun e => own_blk_ne2 HS6.out.tol HS6.out.blk (by decide) e)
      have hG7 := HG6.out.only hO7 (fun e => by
        have h3 := (Own.row HS.out.tol gg e).2
        omega)
      have hSC7 : SC w7 := by rw [HSd.out]; exact ⟨⟨hS7.cell 3, hS7.frozen 3, hS7.lt⟩, ⟨hG7.cell 0, hG7.cell 1, hG7.cell 2, hG7.lt⟩⟩
      refine hK.out _ _ hSC7 (fun hHeld => ?_)
      obtain ⟨hSn, hOn⟩ := HS6.out.tell HB6.out (by rw [show gotCells g t = [.int .i64 3, .int .i64 g.n, .slice t.1 g.b.length t.2] from by unfold gotCells; rw [Hgk.out, hk3]]; exact ho7) hg7
      have hlow : ∀ b, b = gp ∨ l.AT.map (·.block) = some b → B ≤ b := fun b e => by
        rcases e with e | e
        · rw [e]; exact HS.out.low
        · exact (Own.row HS.out.tol b e).1
      have hRn := HRf6.out.only hOn (fun b cs hb e => by
        rcases e with e | e
        · rw [e] at hb; exact absurd (blkT_eq hb.ty HS6.out.blk.ty) (by decide)
        · obtain ⟨h1, -, -⟩ := ownG_form HS6.out.tol b e
          obtain ⟨cs2, h2⟩ := own_ty HS6.out.tol h1
          exact absurd (blkT_eq hb.ty h2.ty) (by decide)) hlow
      have Hpost := Lib.hid (show PCallPost B gp AC nC cC st gs TA l c w (.returned (.tuple #[])) (w7.setCell ⟨gp, 3, none⟩ (.slice A2 (st.told.length + 1) c2)) from by
        unfold PCallPost
        rw [Hca.out, Hcr.out]
        have hj := Hj.out
        refine ⟨rfl, (HOw6.out.mono fun b _ e => by rw [e]; exact hBm).trans (hOn.mono fun b _ e => hlow b e), t, _, hSn, ?_⟩
        show RfM _ B gs (st.rs.set (st.jOf c) ((st.rs.getD (st.jOf c) ([], 0)).1, a)) none
        rw [← hj, List.getD_eq_getElem?_getD, Hr.out]
        exact hRn)
      have t4 : w7.cell? ⟨gp, 3, none⟩ = some (.slice l.AT st.told.length l.cT) := hS7.cell 3
      have tf4 := hS7.frozen 3
      have tl7 := hS7.lt
      clear hK K hHeld ho7 hg7 hA7 hO7 hS7 hG7 hSC7 hSn hOn hRn HSd hlow
      refine fun hInv => ⟨by kernel_rfl, ?_⟩
      clear hInv
      simp only [List.drop_succ_cons, List.drop_zero]
      clear SC
      go_wp2_with fail
      go_end0
      exact Hpost.out
    · have hG4 := HG3.out.only hO4 (fun e => by have h := HRd3.out.blk.ty; rw [← e] at h; exact absurd (blkT_eq h HG3.out.ty) (by decide))
      have herr := PcErr.item (.cells #[.int .i64 3, .int .i64 0, .slice none 0 0] 30) HAg.out hG4 hR4 hO4 hcr
      rw [hk3]
      have g1 : w4.cell? ⟨gg, 1, none⟩ = some (.int .i64 0) := hG4.cell 1
      have g2 : w4.cell? ⟨gg, 2, none⟩ = some (.slice none 0 0) := hG4.cell 2
      have gf := hG4.frozen 1
      have gf2 := hG4.frozen 2
      have gl := hG4.lt
      have hf := callR_err herr.call
      obtain ⟨w5, hw5⟩ : ∃ w', w' = ((w4.setCell ⟨gg, 1, none⟩ (.int .i64 0)).setCell ⟨gg, 2, none⟩ (.slice none 0 0)).alloc (.cells #[.int .i64 3, .int .i64 0, .slice none 0 0] 30) := ⟨_, rfl⟩
      have herr := show PcErr w3 c gm mA mc r gg (f) w5 from by rw [hw5]; exact herr
      have Hw5 := Lib.hid hw5
      obtain ⟨a5, hR5⟩ := herr.rd
      have hOw5 : Only (fun b => b = gm) w w5 := (Only.of_fresh Hb3.out).more herr.only fun b hb e => e.resolve_right (by omega)
      have hS5 := HS.out.only hOw5 (fun b ty hb ht e => by rw [e] at hb; exact ht (blkT_eq hb HRd0.out.blk.ty))
      have hRf5 := (HR.out.go Hm.out Hr.out HAB.out Hsl.out Hrl.out hOw5 hR5).2
      have r2 : w5.cell? ⟨gm, 2, none⟩ = some (.int .i64 (f)) := hR5.c2
      have r2l := hR5.blk.lt
      have Hpost := Lib.hid (show PCallPost B gp AC nC cC st gs TA l c w (.returned (.tuple #[])) w5 from by
        unfold PCallPost
        rw [Hca.out, herr.call]
        have hj := Hj.out
        refine ⟨rfl, hOw5.mono fun b _ e => by rw [e]; exact hBm, hS5, ?_⟩
        rw [← hj]
        exact hRf5)
      clear hw5 herr hR5 hOw5 hS5 hRf5 hG4 hR4 hO4 hcr
      go_upto_region 19 with (fail)
      rw [← Hw5.out]
      clear Hw5 g1 g2 gf gf2 gl
      go_wp2_with fail
      go_end0
      exact Hpost.out
  by_cases hk4 : c.kind = 4
  · as_aux_lemma =>
    have hc := refRead_any c (by omega) gm mc r.2 mA r.1 w3 HRd3.out (by have := Hrl.out.1; omega) Hrl.out.2 Hsl.out.nil
    rw [hk4] at hc
    have Hc := Lib.hid hc
    clear hc
    go_wp2_with fail
    refine Hc.out.mono ?_
    clear Hc
    rintro e w4 ⟨hO4, ⟨x, a, A5, c5, hcr, hxk, rfl, hB4, hR4⟩ | ⟨f, a, hcr, rfl, hR4⟩⟩
    · have hG4 := HG3.out.only hO4 (fun e => by have h := HRd3.out.blk.ty; rw [← e] at h; exact absurd (blkT_eq h HG3.out.ty) (by decide))
      have hmid := PcOk.item (.cells #[.int .i64 4, .int .i64 x.n, .slice A5 x.b.length c5] 30) HAg.out hG4 hR4 hB4 hO4 hcr hxk
      rw [hk4]
      have g1 : w4.cell? ⟨gg, 1, none⟩ = some (.int .i64 0) := hG4.cell 1
      have g2 : w4.cell? ⟨gg, 2, none⟩ = some (.slice none 0 0) := hG4.cell 2
      have gf := hG4.frozen 1
      have gf2 := hG4.frozen 2
      have gl := hG4.lt
      obtain ⟨w5, hw5⟩ : ∃ w', w' = ((w4.setCell ⟨gg, 1, none⟩ (.int .i64 x.n)).setCell ⟨gg, 2, none⟩ (.slice A5 x.b.length c5)).alloc (.cells #[.int .i64 4, .int .i64 x.n, .slice A5 x.b.length c5] 30) := ⟨_, rfl⟩
      have hmid := show PcOk w3 c gm mA mc r gg w5 from by rw [hw5]; exact hmid
      have Hw5 := Lib.hid hw5
      obtain ⟨g, a, t, hcr, hgk, hG5, hB5, hR5, hO5⟩ := hmid.out
      rw [hk4] at hG5
      have hOw5 : Only (fun b => b = gm) w w5 := (Only.of_fresh Hb3.out).more hO5 fun b hb e => e.resolve_right (by omega)
      have hS5 := HS.out.only hOw5 (fun b ty hb ht e => by rw [e] at hb; exact ht (blkT_eq hb HRd0.out.blk.ty))
      have HRf5 := Lib.hid ((HR.out.go Hm.out Hr.out HAB.out Hsl.out Hrl.out hOw5 hR5).1 rfl)
      have HS5 := Lib.hid hS5
      have HB5 := Lib.hid hB5
      have Hcr := Lib.hid hcr
      have Hgk := Lib.hid hgk
      have HOw5 := Lib.hid hOw5
      have r2 : w5.cell? ⟨gm, 2, none⟩ = some (.int .i64 0) := hR5.c2
      have r2l := hR5.blk.lt
      have HR5 := Lib.hid hR5
      have s4 : w5.cell? ⟨gp, 3, none⟩ = some (.slice l.AT st.told.length l.cT) := hS5.blk.cell 3
      have sf4 := hS5.blk.frozen 3
      have sl5 := hS5.blk.lt
      have k0 : w5.cell? ⟨gg, 0, none⟩ = some (.int .i64 4) := hG5.cell 0
      have k1 : w5.cell? ⟨gg, 1, none⟩ = some (.int .i64 g.n) := hG5.cell 1
      have k2 : w5.cell? ⟨gg, 2, none⟩ = some (.slice t.1 g.b.length t.2) := hG5.cell 2
      have kl := hG5.lt
      have HG5 := Lib.hid hG5
      clear hw5 hmid hcr hgk hG5 hB5 hO5 hOw5 hS5 hR5 hG4 hB4 hxk hR4 hO4
      go_upto_region 19 with (fail)
      rw [← Hw5.out]
      clear Hw5 g1 g2 gf gf2 gl
      go_upto_region 20 with (fail)
      obtain ⟨SC, hSCd⟩ : ∃ S : World → Prop, S = fun w' => (w'.cell? ⟨gp, 3, none⟩ = some (.slice l.AT st.told.length l.cT) ∧ w'.frozen? ⟨gp, 3, none⟩ = false ∧ gp < w'.heap.size) ∧ (w'.cell? ⟨gg, 0, none⟩ = some (.int .i64 4) ∧ w'.cell? ⟨gg, 1, none⟩ = some (.int .i64 g.n) ∧ w'.cell? ⟨gg, 2, none⟩ = some (.slice t.1 g.b.length t.2) ∧ gg < w'.heap.size) := ⟨_, rfl⟩
      have hSC : SC w5.drew := by rw [hSCd]; exact ⟨⟨s4, sf4, sl5⟩, ⟨k0, k1, k2, kl⟩⟩
      have HSC := Lib.hid (show SC w5.drew from hSC)
      have HSd := Lib.hid hSCd
      clear hSC hSCd
      refine region_heldT 8 SC (by kernel_rfl) (by decide) ?_
      refine HeadW.take 0 (v := pv gp) rfl (by kernel_rfl) (by kernel_rfl) (by kernel_rfl) (by decide) (by decide) (fun _ _ _ hL => seqB_ready hL.1) (by kernel_rfl) (by kernel_rfl) (fun _ _ _ h => h) HSC.out (.inl ⟨by kernel_rfl, by intro w hSw; rw [HSd.out] at hSw; obtain ⟨⟨e0, f0, l0⟩, ⟨e1, e2, e3, l1⟩⟩ := hSw; go_simp⟩) ?_
      simp only [Act.put, List.setIfInBounds_toArray]
      refine HeadW.take 1 (v := pv gp) rfl (by kernel_rfl) (by kernel_rfl) (by kernel_rfl) (by decide) (by decide) (fun _ _ _ hL => seqB_ready hL.1) (by kernel_rfl) (by kernel_rfl) (fun _ _ _ h => h) HSC.out (.inl ⟨by kernel_rfl, by intro w hSw; rw [HSd.out] at hSw; obtain ⟨⟨e0, f0, l0⟩, ⟨e1, e2, e3, l1⟩⟩ := hSw; go_simp⟩) ?_
      simp only [Act.put]
      refine HeadW.take 2 (v := pv gp) rfl (by kernel_rfl) (by kernel_rfl) (by kernel_rfl) (by decide) (by decide) (fun _ _ _ hL => seqB_ready hL.1) (by kernel_rfl) (by kernel_rfl) (fun _ _ _ h => h) HSC.out (.inl ⟨by kernel_rfl, by intro w hSw; rw [HSd.out] at hSw; obtain ⟨⟨e0, f0, l0⟩, ⟨e1, e2, e3, l1⟩⟩ := hSw; go_simp⟩) ?_
      simp only [Act.put]
      refine HeadW.take 3 (v := .pointer (some ⟨gp, 3, none⟩)) rfl (by kernel_rfl) (by kernel_rfl) (by kernel_rfl) (by decide) (by decide) (fun _ _ _ hL => seqB_ready hL.1) (by kernel_rfl) (by kernel_rfl) (fun _ _ _ h => h) HSC.out (.inl ⟨by kernel_rfl, by intro w hSw; rw [HSd.out] at hSw; obtain ⟨⟨e0, f0, l0⟩, ⟨e1, e2, e3, l1⟩⟩ := hSw; go_simp⟩) ?_
      simp only [Act.put]
      refine HeadW.take 4 (v := .slice l.AT st.told.length l.cT) rfl (by kernel_rfl) (by kernel_rfl) (by kernel_rfl) (by decide) (by decide) (fun _ _ _ hL => seqB_ready hL.1) (by kernel_rfl) (by kernel_rfl) (fun _ _ _ h => h) HSC.out (.inl ⟨by kernel_rfl, by intro w hSw; rw [HSd.out] at hSw; obtain ⟨⟨e0, f0, l0⟩, ⟨e1, e2, e3, l1⟩⟩ := hSw; go_simp⟩) ?_
      simp only [Act.put]
      refine HeadW.take 5 (v := .agg #[.int .i64 4, .int .i64 g.n, .slice t.1 g.b.length t.2]) rfl (by kernel_rfl) (by kernel_rfl) (by kernel_rfl) (by decide) (by decide) (fun _ _ _ hL => seqB_ready hL.1) (by kernel_rfl) (by kernel_rfl) (fun _ _ _ h => h) HSC.out (.inl ⟨by kernel_rfl, by intro w hSw; rw [HSd.out] at hSw; obtain ⟨⟨e0, f0, l0⟩, ⟨e1, e2, e3, l1⟩⟩ := hSw; go_simp⟩) ?_
      simp only [Act.put]
      clear s4 sf4 sl5 k0 k1 k2 kl r2 r2l
      refine headW_one 6 rfl (by decide) (by kernel_rfl) (by kernel_rfl) fun K hK => ?_
      go_simp
      obtain ⟨w6, hw6⟩ : ∃ w', w' = (w5.alloc (.cells #[.int .i64 4, .int .i64 g.n, .slice t.1 g.b.length t.2] 71)).drew := ⟨_, rfl⟩
      rw [← hw6]
      have hb56 : Below w5.heap.size w5 w6 := by rw [hw6]; exact ((Below.refl _ _).alloc (Nat.le_refl _) _).drew
      have hU6 : Blk w6 w5.heap.size 71 #[.int .i64 4, .int .i64 g.n, .slice t.1 g.b.length t.2] := by rw [hw6]; exact Blk.new w5 _ _
      have HS6 := Lib.hid (HS5.out.below hb56)
      have HG6 := Lib.hid (HG5.out.below hb56 HG5.out.lt)
      have HB6 := Lib.hid (HB5.out.only (S := fun _ => False) (Only.of_fresh hb56) fun _ _ h => h)
      have HRf6 := Lib.hid (HRf5.out.below hb56)
      have HU6 := Lib.hid hU6
      have HOw6 := Lib.hid (HOw5.out.trans (Only.of_fresh hb56))
      have hB6 : B ≤ w6.heap.size := by have := HOw6.out.size; omega
      have hSC6 : SC w6 := by rw [HSd.out]; exact ⟨⟨HS6.out.blk.cell 3, HS6.out.blk.frozen 3, HS6.out.blk.lt⟩, ⟨HG6.out.cell 0, HG6.out.cell 1, HG6.out.cell 2, HG6.out.lt⟩⟩
      refine hK.out _ _ hSC6 (fun hHeld => ?_)
      clear hK K hHeld hw6 hb56 hU6 hSC6 HSC
      refine headW_one 7 rfl (by decide) (by kernel_rfl) (by kernel_rfl) fun K hK => ?_
      refine wp_app (.tmp 74) (.tmp 76) eGot rfl rfl HS6.out.tol (A' := some ⟨w5.heap.size, 0, none⟩) (m := 1) (c' := 1) (us := [.int .i64 4, .int .i64 g.n, .slice t.1 g.b.length t.2]) rfl (RV.of_blk HU6.out) rfl (by intro v hv; simp only [List.mem_cons, List.not_mem_nil, or_false] at hv; rcases hv with rfl | rfl | rfl <;> rfl) (by unfold maxLen; omega) (by omega) hB6 (by intro h; cases h) ?_
      intro A2 c2 w7 ho7 hg7 hA7
      have hO7 : Only (fun b => l.AT.map (·.block) = some b) w6 w7 := Only.of_grown hg7 fun k e => e
      have hS7 := HS6.out.blk.only hO7 (fun e => own_blk_ne2 HS6.out.tol HS6.out.blk (by decide) e)
      have hG7 := HG6.out.only hO7 (fun e => by
        have h3 := (Own.row HS.out.tol gg e).2
        omega)
      have hSC7 : SC w7 := by rw [HSd.out]; exact ⟨⟨hS7.cell 3, hS7.frozen 3, hS7.lt⟩, ⟨hG7.cell 0, hG7.cell 1, hG7.cell 2, hG7.lt⟩⟩
      refine hK.out _ _ hSC7 (fun hHeld => ?_)
      obtain ⟨hSn, hOn⟩ := HS6.out.tell HB6.out (by rw [show gotCells g t = [.int .i64 4, .int .i64 g.n, .slice t.1 g.b.length t.2] from by unfold gotCells; rw [Hgk.out, hk4]]; exact ho7) hg7
      have hlow : ∀ b, b = gp ∨ l.AT.map (·.block) = some b → B ≤ b := fun b e => by
        rcases e with e | e
        · rw [e]; exact HS.out.low
        · exact (Own.row HS.out.tol b e).1
      have hRn := HRf6.out.only hOn (fun b cs hb e => by
        rcases e with e | e
        · rw [e] at hb; exact absurd (blkT_eq hb.ty HS6.out.blk.ty) (by decide)
        · obtain ⟨h1, -, -⟩ := ownG_form HS6.out.tol b e
          obtain ⟨cs2, h2⟩ := own_ty HS6.out.tol h1
          exact absurd (blkT_eq hb.ty h2.ty) (by decide)) hlow
      have Hpost := Lib.hid (show PCallPost B gp AC nC cC st gs TA l c w (.returned (.tuple #[])) (w7.setCell ⟨gp, 3, none⟩ (.slice A2 (st.told.length + 1) c2)) from by
        unfold PCallPost
        rw [Hca.out, Hcr.out]
        have hj := Hj.out
        refine ⟨rfl, (HOw6.out.mono fun b _ e => by rw [e]; exact hBm).trans (hOn.mono fun b _ e => hlow b e), t, _, hSn, ?_⟩
        show RfM _ B gs (st.rs.set (st.jOf c) ((st.rs.getD (st.jOf c) ([], 0)).1, a)) none
        rw [← hj, List.getD_eq_getElem?_getD, Hr.out]
        exact hRn)
      have t4 : w7.cell? ⟨gp, 3, none⟩ = some (.slice l.AT st.told.length l.cT) := hS7.cell 3
      have tf4 := hS7.frozen 3
      have tl7 := hS7.lt
      clear hK K hHeld ho7 hg7 hA7 hO7 hS7 hG7 hSC7 hSn hOn hRn HSd hlow
      refine fun hInv => ⟨by kernel_rfl, ?_⟩
      clear hInv
      simp only [List.drop_succ_cons, List.drop_zero]
      clear SC
      go_wp2_with fail
      go_end0
      exact Hpost.out
    · have hG4 := HG3.out.only hO4 (fun e => by have h := HRd3.out.blk.ty; rw [← e] at h; exact absurd (blkT_eq h HG3.out.ty) (by decide))
      have herr := PcErr.item (.cells #[.int .i64 4, .int .i64 0, .slice none 0 0] 30) HAg.out hG4 hR4 hO4 hcr
      rw [hk4]
      have g1 : w4.cell? ⟨gg, 1, none⟩ = some (.int .i64 0) := hG4.cell 1
      have g2 : w4.cell? ⟨gg, 2, none⟩ = some (.slice none 0 0) := hG4.cell 2
      have gf := hG4.frozen 1
      have gf2 := hG4.frozen 2
      have gl := hG4.lt
      have hf := callR_err herr.call
      obtain ⟨w5, hw5⟩ : ∃ w', w' = ((w4.setCell ⟨gg, 1, none⟩ (.int .i64 0)).setCell ⟨gg, 2, none⟩ (.slice none 0 0)).alloc (.cells #[.int .i64 4, .int .i64 0, .slice none 0 0] 30) := ⟨_, rfl⟩
      have herr := show PcErr w3 c gm mA mc r gg (f) w5 from by rw [hw5]; exact herr
      have Hw5 := Lib.hid hw5
      obtain ⟨a5, hR5⟩ := herr.rd
      have hOw5 : Only (fun b => b = gm) w w5 := (Only.of_fresh Hb3.out).more herr.only fun b hb e => e.resolve_right (by omega)
      have hS5 := HS.out.only hOw5 (fun b ty hb ht e => by rw [e] at hb; exact ht (blkT_eq hb HRd0.out.blk.ty))
      have hRf5 := (HR.out.go Hm.out Hr.out HAB.out Hsl.out Hrl.out hOw5 hR5).2
      have r2 : w5.cell? ⟨gm, 2, none⟩ = some (.int .i64 (f)) := hR5.c2
      have r2l := hR5.blk.lt
      have Hpost := Lib.hid (show PCallPost B gp AC nC cC st gs TA l c w (.returned (.tuple #[])) w5 from by
        unfold PCallPost
        rw [Hca.out, herr.call]
        have hj := Hj.out
        refine ⟨rfl, hOw5.mono fun b _ e => by rw [e]; exact hBm, hS5, ?_⟩
        rw [← hj]
        exact hRf5)
      clear hw5 herr hR5 hOw5 hS5 hRf5 hG4 hR4 hO4 hcr
      go_upto_region 19 with (fail)
      rw [← Hw5.out]
      clear Hw5 g1 g2 gf gf2 gl
      go_wp2_with fail
      go_end0
      exact Hpost.out
  by_cases hk5 : c.kind = 5
  · as_aux_lemma =>
    have hc := refRead_any c (by omega) gm mc r.2 mA r.1 w3 HRd3.out (by have := Hrl.out.1; omega) Hrl.out.2 Hsl.out.nil
    rw [hk5] at hc
    have Hc := Lib.hid hc
    clear hc
    go_wp2_with fail
    refine Hc.out.mono ?_
    clear Hc
    rintro e w4 ⟨hO4, ⟨x, a, A5, c5, hcr, hxk, rfl, hB4, hR4⟩ | ⟨f, a, hcr, rfl, hR4⟩⟩
    · have hG4 := HG3.out.only hO4 (fun e => by have h := HRd3.out.blk.ty; rw [← e] at h; exact absurd (blkT_eq h HG3.out.ty) (by decide))
      have hmid := PcOk.item (.cells #[.int .i64 5, .int .i64 x.n, .slice A5 x.b.length c5] 30) HAg.out hG4 hR4 hB4 hO4 hcr hxk
      rw [hk5]
      have g1 : w4.cell? ⟨gg, 1, none⟩ = some (.int .i64 0) := hG4.cell 1
      have g2 : w4.cell? ⟨gg, 2, none⟩ = some (.slice none 0 0) := hG4.cell 2
      have gf := hG4.frozen 1
      have gf2 := hG4.frozen 2
      have gl := hG4.lt
      obtain ⟨w5, hw5⟩ : ∃ w', w' = ((w4.setCell ⟨gg, 1, none⟩ (.int .i64 x.n)).setCell ⟨gg, 2, none⟩ (.slice A5 x.b.length c5)).alloc (.cells #[.int .i64 5, .int .i64 x.n, .slice A5 x.b.length c5] 30) := ⟨_, rfl⟩
      have hmid := show PcOk w3 c gm mA mc r gg w5 from by rw [hw5]; exact hmid
      have Hw5 := Lib.hid hw5
      obtain ⟨g, a, t, hcr, hgk, hG5, hB5, hR5, hO5⟩ := hmid.out
      rw [hk5] at hG5
      have hOw5 : Only (fun b => b = gm) w w5 := (Only.of_fresh Hb3.out).more hO5 fun b hb e => e.resolve_right (by omega)
      have hS5 := HS.out.only hOw5 (fun b ty hb ht e => by rw [e] at hb; exact ht (blkT_eq hb HRd0.out.blk.ty))
      have HRf5 := Lib.hid ((HR.out.go Hm.out Hr.out HAB.out Hsl.out Hrl.out hOw5 hR5).1 rfl)
      have HS5 := Lib.hid hS5
      have HB5 := Lib.hid hB5
      have Hcr := Lib.hid hcr
      have Hgk := Lib.hid hgk
      have HOw5 := Lib.hid hOw5
      have r2 : w5.cell? ⟨gm, 2, none⟩ = some (.int .i64 0) := hR5.c2
      have r2l := hR5.blk.lt
      have HR5 := Lib.hid hR5
      have s4 : w5.cell? ⟨gp, 3, none⟩ = some (.slice l.AT st.told.length l.cT) := hS5.blk.cell 3
      have sf4 := hS5.blk.frozen 3
      have sl5 := hS5.blk.lt
      have k0 : w5.cell? ⟨gg, 0, none⟩ = some (.int .i64 5) := hG5.cell 0
      have k1 : w5.cell? ⟨gg, 1, none⟩ = some (.int .i64 g.n) := hG5.cell 1
      have k2 : w5.cell? ⟨gg, 2, none⟩ = some (.slice t.1 g.b.length t.2) := hG5.cell 2
      have kl := hG5.lt
      have HG5 := Lib.hid hG5
      clear hw5 hmid hcr hgk hG5 hB5 hO5 hOw5 hS5 hR5 hG4 hB4 hxk hR4 hO4
      go_upto_region 19 with (fail)
      rw [← Hw5.out]
      clear Hw5 g1 g2 gf gf2 gl
      go_upto_region 20 with (fail)
      obtain ⟨SC, hSCd⟩ : ∃ S : World → Prop, S = fun w' => (w'.cell? ⟨gp, 3, none⟩ = some (.slice l.AT st.told.length l.cT) ∧ w'.frozen? ⟨gp, 3, none⟩ = false ∧ gp < w'.heap.size) ∧ (w'.cell? ⟨gg, 0, none⟩ = some (.int .i64 5) ∧ w'.cell? ⟨gg, 1, none⟩ = some (.int .i64 g.n) ∧ w'.cell? ⟨gg, 2, none⟩ = some (.slice t.1 g.b.length t.2) ∧ gg < w'.heap.size) := ⟨_, rfl⟩
      have hSC : SC w5.drew := by rw [hSCd]; exact ⟨⟨s4, sf4, sl5⟩, ⟨k0, k1, k2, kl⟩⟩
      have HSC := Lib.hid (show SC w5.drew from hSC)
      have HSd := Lib.hid hSCd
      clear hSC hSCd
      refine region_heldT 8 SC (by kernel_rfl) (by decide) ?_
      refine HeadW.take 0 (v := pv gp) rfl (by kernel_rfl) (by kernel_rfl) (by kernel_rfl) (by decide) (by decide) (fun _ _ _ hL => seqB_ready hL.1) (by kernel_rfl) (by kernel_rfl) (fun _ _ _ h => h) HSC.out (.inl ⟨by kernel_rfl, by intro w hSw; rw [HSd.out] at hSw; obtain ⟨⟨e0, f0, l0⟩, ⟨e1, e2, e3, l1⟩⟩ := hSw; go_simp⟩) ?_
      simp only [Act.put, List.setIfInBounds_toArray]
      refine HeadW.take 1 (v := pv gp) rfl (by kernel_rfl) (by kernel_rfl) (by kernel_rfl) (by decide) (by decide) (fun _ _ _ hL => seqB_ready hL.1) (by kernel_rfl) (by kernel_rfl) (fun _ _ _ h => h) HSC.out (.inl ⟨by kernel_rfl, by intro w hSw; rw [HSd.out] at hSw; obtain ⟨⟨e0, f0, l0⟩, ⟨e1, e2, e3, l1⟩⟩ := hSw; go_simp⟩) ?_
      simp only [Act.put]
      refine HeadW.take 2 (v := pv gp) rfl (by kernel_rfl) (by kernel_rfl) (by kernel_rfl) (by decide) (by decide) (fun _ _ _ hL => seqB_ready hL.1) (by kernel_rfl) (by kernel_rfl) (fun _ _ _ h => h) HSC.out (.inl ⟨by kernel_rfl, by intro w hSw; rw [HSd.out] at hSw; obtain ⟨⟨e0, f0, l0⟩, ⟨e1, e2, e3, l1⟩⟩ := hSw; go_simp⟩) ?_
      simp only [Act.put]
      refine HeadW.take 3 (v := .pointer (some ⟨gp, 3, none⟩)) rfl (by kernel_rfl) (by kernel_rfl) (by kernel_rfl) (by decide) (by decide) (fun _ _ _ hL => seqB_ready hL.1) (by kernel_rfl) (by kernel_rfl) (fun _ _ _ h => h) HSC.out (.inl ⟨by kernel_rfl, by intro w hSw; rw [HSd.out] at hSw; obtain ⟨⟨e0, f0, l0⟩, ⟨e1, e2, e3, l1⟩⟩ := hSw; go_simp⟩) ?_
      simp only [Act.put]
      refine HeadW.take 4 (v := .slice l.AT st.told.length l.cT) rfl (by kernel_rfl) (by kernel_rfl) (by kernel_rfl) (by decide) (by decide) (fun _ _ _ hL => seqB_ready hL.1) (by kernel_rfl) (by kernel_rfl) (fun _ _ _ h => h) HSC.out (.inl ⟨by kernel_rfl, by intro w hSw; rw [HSd.out] at hSw; obtain ⟨⟨e0, f0, l0⟩, ⟨e1, e2, e3, l1⟩⟩ := hSw; go_simp⟩) ?_
      simp only [Act.put]
      refine HeadW.take 5 (v := .agg #[.int .i64 5, .int .i64 g.n, .slice t.1 g.b.length t.2]) rfl (by kernel_rfl) (by kernel_rfl) (by kernel_rfl) (by decide) (by decide) (fun _ _ _ hL => seqB_ready hL.1) (by kernel_rfl) (by kernel_rfl) (fun _ _ _ h => h) HSC.out (.inl ⟨by kernel_rfl, by intro w hSw; rw [HSd.out] at hSw; obtain ⟨⟨e0, f0, l0⟩, ⟨e1, e2, e3, l1⟩⟩ := hSw; go_simp⟩) ?_
      simp only [Act.put]
      clear s4 sf4 sl5 k0 k1 k2 kl r2 r2l
      refine headW_one 6 rfl (by decide) (by kernel_rfl) (by kernel_rfl) fun K hK => ?_
      go_simp
      obtain ⟨w6, hw6⟩ : ∃ w', w' = (w5.alloc (.cells #[.int .i64 5, .int .i64 g.n, .slice t.1 g.b.length t.2] 71)).drew := ⟨_, rfl⟩
      rw [← hw6]
      have hb56 : Below w5.heap.size w5 w6 := by rw [hw6]; exact ((Below.refl _ _).alloc (Nat.le_refl _) _).drew
      have hU6 : Blk w6 w5.heap.size 71 #[.int .i64 5, .int .i64 g.n, .slice t.1 g.b.length t.2] := by rw [hw6]; exact Blk.new w5 _ _
      have HS6 := Lib.hid (HS5.out.below hb56)
      have HG6 := Lib.hid (HG5.out.below hb56 HG5.out.lt)
      have HB6 := Lib.hid (HB5.out.only (S := fun _ => False) (Only.of_fresh hb56) fun _ _ h => h)
      have HRf6 := Lib.hid (HRf5.out.below hb56)
      have HU6 := Lib.hid hU6
      have HOw6 := Lib.hid (HOw5.out.trans (Only.of_fresh hb56))
      have hB6 : B ≤ w6.heap.size := by have := HOw6.out.size; omega
      have hSC6 : SC w6 := by rw [HSd.out]; exact ⟨⟨HS6.out.blk.cell 3, HS6.out.blk.frozen 3, HS6.out.blk.lt⟩, ⟨HG6.out.cell 0, HG6.out.cell 1, HG6.out.cell 2, HG6.out.lt⟩⟩
      refine hK.out _ _ hSC6 (fun hHeld => ?_)
      clear hK K hHeld hw6 hb56 hU6 hSC6 HSC
      refine headW_one 7 rfl (by decide) (by kernel_rfl) (by kernel_rfl) fun K hK => ?_
      refine wp_app (.tmp 74) (.tmp 76) eGot rfl rfl HS6.out.tol (A' := some ⟨w5.heap.size, 0, none⟩) (m := 1) (c' := 1) (us := [.int .i64 5, .int .i64 g.n, .slice t.1 g.b.length t.2]) rfl (RV.of_blk HU6.out) rfl (by intro v hv; simp only [List.mem_cons, List.not_mem_nil, or_false] at hv; rcases hv with rfl | rfl | rfl <;> rfl) (by unfold maxLen; omega) (by omega) hB6 (by intro h; cases h) ?_
      intro A2 c2 w7 ho7 hg7 hA7
      have hO7 : Only (fun b => l.AT.map (·.block) = some b) w6 w7 := Only.of_grown hg7 fun k e => e
      have hS7 := HS6.out.blk.only hO7 (fun e => own_blk_ne2 HS6.out.tol HS6.out.blk (by decide) e)
      have hG7 := HG6.out.only hO7 (fun e => by
        have h3 := (Own.row HS.out.tol gg e).2
        omega)
      have hSC7 : SC w7 := by rw [HSd.out]; exact ⟨⟨hS7.cell 3, hS7.frozen 3, hS7.lt⟩, ⟨hG7.cell 0, hG7.cell 1, hG7.cell 2, hG7.lt⟩⟩
      refine hK.out _ _ hSC7 (fun hHeld => ?_)
      obtain ⟨hSn, hOn⟩ := HS6.out.tell HB6.out (by rw [show gotCells g t = [.int .i64 5, .int .i64 g.n, .slice t.1 g.b.length t.2] from by unfold gotCells; rw [Hgk.out, hk5]]; exact ho7) hg7
      have hlow : ∀ b, b = gp ∨ l.AT.map (·.block) = some b → B ≤ b := fun b e => by
        rcases e with e | e
        · rw [e]; exact HS.out.low
        · exact (Own.row HS.out.tol b e).1
      have hRn := HRf6.out.only hOn (fun b cs hb e => by
        rcases e with e | e
        · rw [e] at hb; exact absurd (blkT_eq hb.ty HS6.out.blk.ty) (by decide)
        · obtain ⟨h1, -, -⟩ := ownG_form HS6.out.tol b e
          obtain ⟨cs2, h2⟩ := own_ty HS6.out.tol h1
          exact absurd (blkT_eq hb.ty h2.ty) (by decide)) hlow
      have Hpost := Lib.hid (show PCallPost B gp AC nC cC st gs TA l c w (.returned (.tuple #[])) (w7.setCell ⟨gp, 3, none⟩ (.slice A2 (st.told.length + 1) c2)) from by
        unfold PCallPost
        rw [Hca.out, Hcr.out]
        have hj := Hj.out
        refine ⟨rfl, (HOw6.out.mono fun b _ e => by rw [e]; exact hBm).trans (hOn.mono fun b _ e => hlow b e), t, _, hSn, ?_⟩
        show RfM _ B gs (st.rs.set (st.jOf c) ((st.rs.getD (st.jOf c) ([], 0)).1, a)) none
        rw [← hj, List.getD_eq_getElem?_getD, Hr.out]
        exact hRn)
      have t4 : w7.cell? ⟨gp, 3, none⟩ = some (.slice l.AT st.told.length l.cT) := hS7.cell 3
      have tf4 := hS7.frozen 3
      have tl7 := hS7.lt
      clear hK K hHeld ho7 hg7 hA7 hO7 hS7 hG7 hSC7 hSn hOn hRn HSd hlow
      refine fun hInv => ⟨by kernel_rfl, ?_⟩
      clear hInv
      simp only [List.drop_succ_cons, List.drop_zero]
      clear SC
      go_wp2_with fail
      go_end0
      exact Hpost.out
    · have hG4 := HG3.out.only hO4 (fun e => by have h := HRd3.out.blk.ty; rw [← e] at h; exact absurd (blkT_eq h HG3.out.ty) (by decide))
      have herr := PcErr.item (.cells #[.int .i64 5, .int .i64 0, .slice none 0 0] 30) HAg.out hG4 hR4 hO4 hcr
      rw [hk5]
      have g1 : w4.cell? ⟨gg, 1, none⟩ = some (.int .i64 0) := hG4.cell 1
      have g2 : w4.cell? ⟨gg, 2, none⟩ = some (.slice none 0 0) := hG4.cell 2
      have gf := hG4.frozen 1
      have gf2 := hG4.frozen 2
      have gl := hG4.lt
      have hf := callR_err herr.call
      obtain ⟨w5, hw5⟩ : ∃ w', w' = ((w4.setCell ⟨gg, 1, none⟩ (.int .i64 0)).setCell ⟨gg, 2, none⟩ (.slice none 0 0)).alloc (.cells #[.int .i64 5, .int .i64 0, .slice none 0 0] 30) := ⟨_, rfl⟩
      have herr := show PcErr w3 c gm mA mc r gg (f) w5 from by rw [hw5]; exact herr
      have Hw5 := Lib.hid hw5
      obtain ⟨a5, hR5⟩ := herr.rd
      have hOw5 : Only (fun b => b = gm) w w5 := (Only.of_fresh Hb3.out).more herr.only fun b hb e => e.resolve_right (by omega)
      have hS5 := HS.out.only hOw5 (fun b ty hb ht e => by rw [e] at hb; exact ht (blkT_eq hb HRd0.out.blk.ty))
      have hRf5 := (HR.out.go Hm.out Hr.out HAB.out Hsl.out Hrl.out hOw5 hR5).2
      have r2 : w5.cell? ⟨gm, 2, none⟩ = some (.int .i64 (f)) := hR5.c2
      have r2l := hR5.blk.lt
      have Hpost := Lib.hid (show PCallPost B gp AC nC cC st gs TA l c w (.returned (.tuple #[])) w5 from by
        unfold PCallPost
        rw [Hca.out, herr.call]
        have hj := Hj.out
        refine ⟨rfl, hOw5.mono fun b _ e => by rw [e]; exact hBm, hS5, ?_⟩
        rw [← hj]
        exact hRf5)
      clear hw5 herr hR5 hOw5 hS5 hRf5 hG4 hR4 hO4 hcr
      go_upto_region 19 with (fail)
      rw [← Hw5.out]
      clear Hw5 g1 g2 gf gf2 gl
      go_wp2_with fail
      go_end0
      exact Hpost.out
  by_cases hk6 : c.kind = 6
  · as_aux_lemma =>
    have hc := refRead_any c (by omega) gm mc r.2 mA r.1 w3 HRd3.out (by have := Hrl.out.1; omega) Hrl.out.2 Hsl.out.nil
    rw [hk6] at hc
    have Hc := Lib.hid hc
    clear hc
    go_wp2_with fail
    refine Hc.out.mono ?_
    clear Hc
    rintro e w4 ⟨hO4, ⟨x, a, A5, c5, hcr, hxk, rfl, hB4, hR4⟩ | ⟨f, a, hcr, rfl, hR4⟩⟩
    · have hG4 := HG3.out.only hO4 (fun e => by have h := HRd3.out.blk.ty; rw [← e] at h; exact absurd (blkT_eq h HG3.out.ty) (by decide))
      have hmid := PcOk.item (.cells #[.int .i64 6, .int .i64 x.n, .slice A5 x.b.length c5] 30) HAg.out hG4 hR4 hB4 hO4 hcr hxk
      rw [hk6]
      have g1 : w4.cell? ⟨gg, 1, none⟩ = some (.int .i64 0) := hG4.cell 1
      have g2 : w4.cell? ⟨gg, 2, none⟩ = some (.slice none 0 0) := hG4.cell 2
      have gf := hG4.frozen 1
      have gf2 := hG4.frozen 2
      have gl := hG4.lt
      obtain ⟨w5, hw5⟩ : ∃ w', w' = ((w4.setCell ⟨gg, 1, none⟩ (.int .i64 x.n)).setCell ⟨gg, 2, none⟩ (.slice A5 x.b.length c5)).alloc (.cells #[.int .i64 6, .int .i64 x.n, .slice A5 x.b.length c5] 30) := ⟨_, rfl⟩
      have hmid := show PcOk w3 c gm mA mc r gg w5 from by rw [hw5]; exact hmid
      have Hw5 := Lib.hid hw5
      obtain ⟨g, a, t, hcr, hgk, hG5, hB5, hR5, hO5⟩ := hmid.out
      rw [hk6] at hG5
      have hOw5 : Only (fun b => b = gm) w w5 := (Only.of_fresh Hb3.out).more hO5 fun b hb e => e.resolve_right (by omega)
      have hS5 := HS.out.only hOw5 (fun b ty hb ht e => by rw [e] at hb; exact ht (blkT_eq hb HRd0.out.blk.ty))
      have HRf5 := Lib.hid ((HR.out.go Hm.out Hr.out HAB.out Hsl.out Hrl.out hOw5 hR5).1 rfl)
      have HS5 := Lib.hid hS5
      have HB5 := Lib.hid hB5
      have Hcr := Lib.hid hcr
      have Hgk := Lib.hid hgk
      have HOw5 := Lib.hid hOw5
      have r2 : w5.cell? ⟨gm, 2, none⟩ = some (.int .i64 0) := hR5.c2
      have r2l := hR5.blk.lt
      have HR5 := Lib.hid hR5
      have s4 : w5.cell? ⟨gp, 3, none⟩ = some (.slice l.AT st.told.length l.cT) := hS5.blk.cell 3
      have sf4 := hS5.blk.frozen 3
      have sl5 := hS5.blk.lt
      have k0 : w5.cell? ⟨gg, 0, none⟩ = some (.int .i64 6) := hG5.cell 0
      have k1 : w5.cell? ⟨gg, 1, none⟩ = some (.int .i64 g.n) := hG5.cell 1
      have k2 : w5.cell? ⟨gg, 2, none⟩ = some (.slice t.1 g.b.length t.2) := hG5.cell 2
      have kl := hG5.lt
      have HG5 := Lib.hid hG5
      clear hw5 hmid hcr hgk hG5 hB5 hO5 hOw5 hS5 hR5 hG4 hB4 hxk hR4 hO4
      go_upto_region 19 with (fail)
      rw [← Hw5.out]
      clear Hw5 g1 g2 gf gf2 gl
      go_upto_region 20 with (fail)
      obtain ⟨SC, hSCd⟩ : ∃ S : World → Prop, S = fun w' => (w'.cell? ⟨gp, 3, none⟩ = some (.slice l.AT st.told.length l.cT) ∧ w'.frozen? ⟨gp, 3, none⟩ = false ∧ gp < w'.heap.size) ∧ (w'.cell? ⟨gg, 0, none⟩ = some (.int .i64 6) ∧ w'.cell? ⟨gg, 1, none⟩ = some (.int .i64 g.n) ∧ w'.cell? ⟨gg, 2, none⟩ = some (.slice t.1 g.b.length t.2) ∧ gg < w'.heap.size) := ⟨_, rfl⟩
      have hSC : SC w5.drew := by rw [hSCd]; exact ⟨⟨s4, sf4, sl5⟩, ⟨k0, k1, k2, kl⟩⟩
      have HSC := Lib.hid (show SC w5.drew from hSC)
      have HSd := Lib.hid hSCd
      clear hSC hSCd
      refine region_heldT 8 SC (by kernel_rfl) (by decide) ?_
      refine HeadW.take 0 (v := pv gp) rfl (by kernel_rfl) (by kernel_rfl) (by kernel_rfl) (by decide) (by decide) (fun _ _ _ hL => seqB_ready hL.1) (by kernel_rfl) (by kernel_rfl) (fun _ _ _ h => h) HSC.out (.inl ⟨by kernel_rfl, by intro w hSw; rw [HSd.out] at hSw; obtain ⟨⟨e0, f0, l0⟩, ⟨e1, e2, e3, l1⟩⟩ := hSw; go_simp⟩) ?_
      simp only [Act.put, List.setIfInBounds_toArray]
      refine HeadW.take 1 (v := pv gp) rfl (by kernel_rfl) (by kernel_rfl) (by kernel_rfl) (by decide) (by decide) (fun _ _ _ hL => seqB_ready hL.1) (by kernel_rfl) (by kernel_rfl) (fun _ _ _ h => h) HSC.out (.inl ⟨by kernel_rfl, by intro w hSw; rw [HSd.out] at hSw; obtain ⟨⟨e0, f0, l0⟩, ⟨e1, e2, e3, l1⟩⟩ := hSw; go_simp⟩) ?_
      simp only [Act.put]
      refine HeadW.take 2 (v := pv gp) rfl (by kernel_rfl) (by kernel_rfl) (by kernel_rfl) (by decide) (by decide) (fun _ _ _ hL => seqB_ready hL.1) (by kernel_rfl) (by kernel_rfl) (fun _ _ _ h => h) HSC.out (.inl ⟨by kernel_rfl, by intro w hSw; rw [HSd.out] at hSw; obtain ⟨⟨e0, f0, l0⟩, ⟨e1, e2, e3, l1⟩⟩ := hSw; go_simp⟩) ?_
      simp only [Act.put]
      refine HeadW.take 3 (v := .pointer (some ⟨gp, 3, none⟩)) rfl (by kernel_rfl) (by kernel_rfl) (by kernel_rfl) (by decide) (by decide) (fun _ _ _ hL => seqB_ready hL.1) (by kernel_rfl) (by kernel_rfl) (fun _ _ _ h => h) HSC.out (.inl ⟨by kernel_rfl, by intro w hSw; rw [HSd.out] at hSw; obtain ⟨⟨e0, f0, l0⟩, ⟨e1, e2, e3, l1⟩⟩ := hSw; go_simp⟩) ?_
      simp only [Act.put]
      refine HeadW.take 4 (v := .slice l.AT st.told.length l.cT) rfl (by kernel_rfl) (by kernel_rfl) (by kernel_rfl) (by decide) (by decide) (fun _ _ _ hL => seqB_ready hL.1) (by kernel_rfl) (by kernel_rfl) (fun _ _ _ h => h) HSC.out (.inl ⟨by kernel_rfl, by intro w hSw; rw [HSd.out] at hSw; obtain ⟨⟨e0, f0, l0⟩, ⟨e1, e2, e3, l1⟩⟩ := hSw; go_simp⟩) ?_
      simp only [Act.put]
      refine HeadW.take 5 (v := .agg #[.int .i64 6, .int .i64 g.n, .slice t.1 g.b.length t.2]) rfl (by kernel_rfl) (by kernel_rfl) (by kernel_rfl) (by decide) (by decide) (fun _ _ _ hL => seqB_ready hL.1) (by kernel_rfl) (by kernel_rfl) (fun _ _ _ h => h) HSC.out (.inl ⟨by kernel_rfl, by intro w hSw; rw [HSd.out] at hSw; obtain ⟨⟨e0, f0, l0⟩, ⟨e1, e2, e3, l1⟩⟩ := hSw; go_simp⟩) ?_
      simp only [Act.put]
      clear s4 sf4 sl5 k0 k1 k2 kl r2 r2l
      refine headW_one 6 rfl (by decide) (by kernel_rfl) (by kernel_rfl) fun K hK => ?_
      go_simp
      obtain ⟨w6, hw6⟩ : ∃ w', w' = (w5.alloc (.cells #[.int .i64 6, .int .i64 g.n, .slice t.1 g.b.length t.2] 71)).drew := ⟨_, rfl⟩
      rw [← hw6]
      have hb56 : Below w5.heap.size w5 w6 := by rw [hw6]; exact ((Below.refl _ _).alloc (Nat.le_refl _) _).drew
      have hU6 : Blk w6 w5.heap.size 71 #[.int .i64 6, .int .i64 g.n, .slice t.1 g.b.length t.2] := by rw [hw6]; exact Blk.new w5 _ _
      have HS6 := Lib.hid (HS5.out.below hb56)
      have HG6 := Lib.hid (HG5.out.below hb56 HG5.out.lt)
      have HB6 := Lib.hid (HB5.out.only (S := fun _ => False) (Only.of_fresh hb56) fun _ _ h => h)
      have HRf6 := Lib.hid (HRf5.out.below hb56)
      have HU6 := Lib.hid hU6
      have HOw6 := Lib.hid (HOw5.out.trans (Only.of_fresh hb56))
      have hB6 : B ≤ w6.heap.size := by have := HOw6.out.size; omega
      have hSC6 : SC w6 := by rw [HSd.out]; exact ⟨⟨HS6.out.blk.cell 3, HS6.out.blk.frozen 3, HS6.out.blk.lt⟩, ⟨HG6.out.cell 0, HG6.out.cell 1, HG6.out.cell 2, HG6.out.lt⟩⟩
      refine hK.out _ _ hSC6 (fun hHeld => ?_)
      clear hK K hHeld hw6 hb56 hU6 hSC6 HSC
      refine headW_one 7 rfl (by decide) (by kernel_rfl) (by kernel_rfl) fun K hK => ?_
      refine wp_app (.tmp 74) (.tmp 76) eGot rfl rfl HS6.out.tol (A' := some ⟨w5.heap.size, 0, none⟩) (m := 1) (c' := 1) (us := [.int .i64 6, .int .i64 g.n, .slice t.1 g.b.length t.2]) rfl (RV.of_blk HU6.out) rfl (by intro v hv; simp only [List.mem_cons, List.not_mem_nil, or_false] at hv; rcases hv with rfl | rfl | rfl <;> rfl) (by unfold maxLen; omega) (by omega) hB6 (by intro h; cases h) ?_
      intro A2 c2 w7 ho7 hg7 hA7
      have hO7 : Only (fun b => l.AT.map (·.block) = some b) w6 w7 := Only.of_grown hg7 fun k e => e
      have hS7 := HS6.out.blk.only hO7 (fun e => own_blk_ne2 HS6.out.tol HS6.out.blk (by decide) e)
      have hG7 := HG6.out.only hO7 (fun e => by
        have h3 := (Own.row HS.out.tol gg e).2
        omega)
      have hSC7 : SC w7 := by rw [HSd.out]; exact ⟨⟨hS7.cell 3, hS7.frozen 3, hS7.lt⟩, ⟨hG7.cell 0, hG7.cell 1, hG7.cell 2, hG7.lt⟩⟩
      refine hK.out _ _ hSC7 (fun hHeld => ?_)
      obtain ⟨hSn, hOn⟩ := HS6.out.tell HB6.out (by rw [show gotCells g t = [.int .i64 6, .int .i64 g.n, .slice t.1 g.b.length t.2] from by unfold gotCells; rw [Hgk.out, hk6]]; exact ho7) hg7
      have hlow : ∀ b, b = gp ∨ l.AT.map (·.block) = some b → B ≤ b := fun b e => by
        rcases e with e | e
        · rw [e]; exact HS.out.low
        · exact (Own.row HS.out.tol b e).1
      have hRn := HRf6.out.only hOn (fun b cs hb e => by
        rcases e with e | e
        · rw [e] at hb; exact absurd (blkT_eq hb.ty HS6.out.blk.ty) (by decide)
        · obtain ⟨h1, -, -⟩ := ownG_form HS6.out.tol b e
          obtain ⟨cs2, h2⟩ := own_ty HS6.out.tol h1
          exact absurd (blkT_eq hb.ty h2.ty) (by decide)) hlow
      have Hpost := Lib.hid (show PCallPost B gp AC nC cC st gs TA l c w (.returned (.tuple #[])) (w7.setCell ⟨gp, 3, none⟩ (.slice A2 (st.told.length + 1) c2)) from by
        unfold PCallPost
        rw [Hca.out, Hcr.out]
        have hj := Hj.out
        refine ⟨rfl, (HOw6.out.mono fun b _ e => by rw [e]; exact hBm).trans (hOn.mono fun b _ e => hlow b e), t, _, hSn, ?_⟩
        show RfM _ B gs (st.rs.set (st.jOf c) ((st.rs.getD (st.jOf c) ([], 0)).1, a)) none
        rw [← hj, List.getD_eq_getElem?_getD, Hr.out]
        exact hRn)
      have t4 : w7.cell? ⟨gp, 3, none⟩ = some (.slice l.AT st.told.length l.cT) := hS7.cell 3
      have tf4 := hS7.frozen 3
      have tl7 := hS7.lt
      clear hK K hHeld ho7 hg7 hA7 hO7 hS7 hG7 hSC7 hSn hOn hRn HSd hlow
      refine fun hInv => ⟨by kernel_rfl, ?_⟩
      clear hInv
      simp only [List.drop_succ_cons, List.drop_zero]
      clear SC
      go_wp2_with fail
      go_end0
      exact Hpost.out
    · have hG4 := HG3.out.only hO4 (fun e => by have h := HRd3.out.blk.ty; rw [← e] at h; exact absurd (blkT_eq h HG3.out.ty) (by decide))
      have herr := PcErr.item (.cells #[.int .i64 6, .int .i64 0, .slice none 0 0] 30) HAg.out hG4 hR4 hO4 hcr
      rw [hk6]
      have g1 : w4.cell? ⟨gg, 1, none⟩ = some (.int .i64 0) := hG4.cell 1
      have g2 : w4.cell? ⟨gg, 2, none⟩ = some (.slice none 0 0) := hG4.cell 2
      have gf := hG4.frozen 1
      have gf2 := hG4.frozen 2
      have gl := hG4.lt
      have hf := callR_err herr.call
      obtain ⟨w5, hw5⟩ : ∃ w', w' = ((w4.setCell ⟨gg, 1, none⟩ (.int .i64 0)).setCell ⟨gg, 2, none⟩ (.slice none 0 0)).alloc (.cells #[.int .i64 6, .int .i64 0, .slice none 0 0] 30) := ⟨_, rfl⟩
      have herr := show PcErr w3 c gm mA mc r gg (f) w5 from by rw [hw5]; exact herr
      have Hw5 := Lib.hid hw5
      obtain ⟨a5, hR5⟩ := herr.rd
      have hOw5 : Only (fun b => b = gm) w w5 := (Only.of_fresh Hb3.out).more herr.only fun b hb e => e.resolve_right (by omega)
      have hS5 := HS.out.only hOw5 (fun b ty hb ht e => by rw [e] at hb; exact ht (blkT_eq hb HRd0.out.blk.ty))
      have hRf5 := (HR.out.go Hm.out Hr.out HAB.out Hsl.out Hrl.out hOw5 hR5).2
      have r2 : w5.cell? ⟨gm, 2, none⟩ = some (.int .i64 (f)) := hR5.c2
      have r2l := hR5.blk.lt
      have Hpost := Lib.hid (show PCallPost B gp AC nC cC st gs TA l c w (.returned (.tuple #[])) w5 from by
        unfold PCallPost
        rw [Hca.out, herr.call]
        have hj := Hj.out
        refine ⟨rfl, hOw5.mono fun b _ e => by rw [e]; exact hBm, hS5, ?_⟩
        rw [← hj]
        exact hRf5)
      clear hw5 herr hR5 hOw5 hS5 hRf5 hG4 hR4 hO4 hcr
      go_upto_region 19 with (fail)
      rw [← Hw5.out]
      clear Hw5 g1 g2 gf gf2 gl
      go_wp2_with fail
      go_end0
      exact Hpost.out
  by_cases hk7 : c.kind = 7
  · as_aux_lemma =>
    have Hc := Lib.hid (refM_any gm mc r.2 c.n mA r.1 w3 HRd3.out (by have := Hrl.out.1; omega))
    go_wp2_with fail
    refine Hc.out.mono ?_
    clear Hc
    rintro e w4 ⟨hO4, ⟨u, k', hM, rfl, hR4⟩ | ⟨f, a, hM, rfl, hR4⟩⟩
    · have hG4 := HG3.out.only hO4 (fun e => by have h := HRd3.out.blk.ty; rw [← e] at h; exact absurd (blkT_eq h HG3.out.ty) (by decide))
      have hcr : callR c r.1 r.2 = some (.ok (⟨c.kind, (u : Int), []⟩, r.2 + k')) := by unfold callR; simp [hk7, hM, Except.map]
      have hmid := PcOk.num (u : Int) (r.2 + k') HAg.out hG4 hR4 hO4 hcr
      have g1 : w4.cell? ⟨gg, 1, none⟩ = some (.int .i64 0) := hG4.cell 1
      have g2 : w4.cell? ⟨gg, 2, none⟩ = some (.slice none 0 0) := hG4.cell 2
      have gf := hG4.frozen 1
      have gf2 := hG4.frozen 2
      have gl := hG4.lt
      obtain ⟨w5, hw5⟩ : ∃ w', w' = w4.setCell ⟨gg, 1, none⟩ (.int .i64 (u : Int)) := ⟨_, rfl⟩
      have hmid := show PcOk w3 c gm mA mc r gg w5 from by rw [hw5]; exact hmid
      have Hw5 := Lib.hid hw5
      obtain ⟨g, a, t, hcr, hgk, hG5, hB5, hR5, hO5⟩ := hmid.out
      rw [hk7] at hG5
      have hOw5 : Only (fun b => b = gm) w w5 := (Only.of_fresh Hb3.out).more hO5 fun b hb e => e.resolve_right (by omega)
      have hS5 := HS.out.only hOw5 (fun b ty hb ht e => by rw [e] at hb; exact ht (blkT_eq hb HRd0.out.blk.ty))
      have HRf5 := Lib.hid ((HR.out.go Hm.out Hr.out HAB.out Hsl.out Hrl.out hOw5 hR5).1 rfl)
      have HS5 := Lib.hid hS5
      have HB5 := Lib.hid hB5
      have Hcr := Lib.hid hcr
      have Hgk := Lib.hid hgk
      have HOw5 := Lib.hid hOw5
      have r2 : w5.cell? ⟨gm, 2, none⟩ = some (.int .i64 0) := hR5.c2
      have r2l := hR5.blk.lt
      have HR5 := Lib.hid hR5
      have s4 : w5.cell? ⟨gp, 3, none⟩ = some (.slice l.AT st.told.length l.cT) := hS5.blk.cell 3
      have sf4 := hS5.blk.frozen 3
      have sl5 := hS5.blk.lt
      have k0 : w5.cell? ⟨gg, 0, none⟩ = some (.int .i64 7) := hG5.cell 0
      have k1 : w5.cell? ⟨gg, 1, none⟩ = some (.int .i64 g.n) := hG5.cell 1
      have k2 : w5.cell? ⟨gg, 2, none⟩ = some (.slice t.1 g.b.length t.2) := hG5.cell 2
      have kl := hG5.lt
      have HG5 := Lib.hid hG5
      clear hw5 hmid hcr hgk hG5 hB5 hO5 hOw5 hS5 hR5 hG4 hR4 hO4 hM
      go_upto_region 19 with (fail)
      rw [← Hw5.out]
      clear Hw5 g1 g2 gf gf2 gl
      go_upto_region 20 with (fail)
      obtain ⟨SC, hSCd⟩ : ∃ S : World → Prop, S = fun w' => (w'.cell? ⟨gp, 3, none⟩ = some (.slice l.AT st.told.length l.cT) ∧ w'.frozen? ⟨gp, 3, none⟩ = false ∧ gp < w'.heap.size) ∧ (w'.cell? ⟨gg, 0, none⟩ = some (.int .i64 7) ∧ w'.cell? ⟨gg, 1, none⟩ = some (.int .i64 g.n) ∧ w'.cell? ⟨gg, 2, none⟩ = some (.slice t.1 g.b.length t.2) ∧ gg < w'.heap.size) := ⟨_, rfl⟩
      have hSC : SC w5.drew := by rw [hSCd]; exact ⟨⟨s4, sf4, sl5⟩, ⟨k0, k1, k2, kl⟩⟩
      have HSC := Lib.hid (show SC w5.drew from hSC)
      have HSd := Lib.hid hSCd
      clear hSC hSCd
      refine region_heldT 8 SC (by kernel_rfl) (by decide) ?_
      refine HeadW.take 0 (v := pv gp) rfl (by kernel_rfl) (by kernel_rfl) (by kernel_rfl) (by decide) (by decide) (fun _ _ _ hL => seqB_ready hL.1) (by kernel_rfl) (by kernel_rfl) (fun _ _ _ h => h) HSC.out (.inl ⟨by kernel_rfl, by intro w hSw; rw [HSd.out] at hSw; obtain ⟨⟨e0, f0, l0⟩, ⟨e1, e2, e3, l1⟩⟩ := hSw; go_simp⟩) ?_
      simp only [Act.put, List.setIfInBounds_toArray]
      refine HeadW.take 1 (v := pv gp) rfl (by kernel_rfl) (by kernel_rfl) (by kernel_rfl) (by decide) (by decide) (fun _ _ _ hL => seqB_ready hL.1) (by kernel_rfl) (by kernel_rfl) (fun _ _ _ h => h) HSC.out (.inl ⟨by kernel_rfl, by intro w hSw; rw [HSd.out] at hSw; obtain ⟨⟨e0, f0, l0⟩, ⟨e1, e2, e3, l1⟩⟩ := hSw; go_simp⟩) ?_
      simp only [Act.put]
      refine HeadW.take 2 (v := pv gp) rfl (by kernel_rfl) (by kernel_rfl) (by kernel_rfl) (by decide) (by decide) (fun _ _ _ hL => seqB_ready hL.1) (by kernel_rfl) (by kernel_rfl) (fun _ _ _ h => h) HSC.out (.inl ⟨by kernel_rfl, by intro w hSw; rw [HSd.out] at hSw; obtain ⟨⟨e0, f0, l0⟩, ⟨e1, e2, e3, l1⟩⟩ := hSw; go_simp⟩) ?_
      simp only [Act.put]
      refine HeadW.take 3 (v := .pointer (some ⟨gp, 3, none⟩)) rfl (by kernel_rfl) (by kernel_rfl) (by kernel_rfl) (by decide) (by decide) (fun _ _ _ hL => seqB_ready hL.1) (by kernel_rfl) (by kernel_rfl) (fun _ _ _ h => h) HSC.out (.inl ⟨by kernel_rfl, by intro w hSw; rw [HSd.out] at hSw; obtain ⟨⟨e0, f0, l0⟩, ⟨e1, e2, e3, l1⟩⟩ := hSw; go_simp⟩) ?_
      simp only [Act.put]
      refine HeadW.take 4 (v := .slice l.AT st.told.length l.cT) rfl (by kernel_rfl) (by kernel_rfl) (by kernel_rfl) (by decide) (by decide) (fun _ _ _ hL => seqB_ready hL.1) (by kernel_rfl) (by kernel_rfl) (fun _ _ _ h => h) HSC.out (.inl ⟨by kernel_rfl, by intro w hSw; rw [HSd.out] at hSw; obtain ⟨⟨e0, f0, l0⟩, ⟨e1, e2, e3, l1⟩⟩ := hSw; go_simp⟩) ?_
      simp only [Act.put]
      refine HeadW.take 5 (v := .agg #[.int .i64 7, .int .i64 g.n, .slice t.1 g.b.length t.2]) rfl (by kernel_rfl) (by kernel_rfl) (by kernel_rfl) (by decide) (by decide) (fun _ _ _ hL => seqB_ready hL.1) (by kernel_rfl) (by kernel_rfl) (fun _ _ _ h => h) HSC.out (.inl ⟨by kernel_rfl, by intro w hSw; rw [HSd.out] at hSw; obtain ⟨⟨e0, f0, l0⟩, ⟨e1, e2, e3, l1⟩⟩ := hSw; go_simp⟩) ?_
      simp only [Act.put]
      clear s4 sf4 sl5 k0 k1 k2 kl r2 r2l
      refine headW_one 6 rfl (by decide) (by kernel_rfl) (by kernel_rfl) fun K hK => ?_
      go_simp
      obtain ⟨w6, hw6⟩ : ∃ w', w' = (w5.alloc (.cells #[.int .i64 7, .int .i64 g.n, .slice t.1 g.b.length t.2] 71)).drew := ⟨_, rfl⟩
      rw [← hw6]
      have hb56 : Below w5.heap.size w5 w6 := by rw [hw6]; exact ((Below.refl _ _).alloc (Nat.le_refl _) _).drew
      have hU6 : Blk w6 w5.heap.size 71 #[.int .i64 7, .int .i64 g.n, .slice t.1 g.b.length t.2] := by rw [hw6]; exact Blk.new w5 _ _
      have HS6 := Lib.hid (HS5.out.below hb56)
      have HG6 := Lib.hid (HG5.out.below hb56 HG5.out.lt)
      have HB6 := Lib.hid (HB5.out.only (S := fun _ => False) (Only.of_fresh hb56) fun _ _ h => h)
      have HRf6 := Lib.hid (HRf5.out.below hb56)
      have HU6 := Lib.hid hU6
      have HOw6 := Lib.hid (HOw5.out.trans (Only.of_fresh hb56))
      have hB6 : B ≤ w6.heap.size := by have := HOw6.out.size; omega
      have hSC6 : SC w6 := by rw [HSd.out]; exact ⟨⟨HS6.out.blk.cell 3, HS6.out.blk.frozen 3, HS6.out.blk.lt⟩, ⟨HG6.out.cell 0, HG6.out.cell 1, HG6.out.cell 2, HG6.out.lt⟩⟩
      refine hK.out _ _ hSC6 (fun hHeld => ?_)
      clear hK K hHeld hw6 hb56 hU6 hSC6 HSC
      refine headW_one 7 rfl (by decide) (by kernel_rfl) (by kernel_rfl) fun K hK => ?_
      refine wp_app (.tmp 74) (.tmp 76) eGot rfl rfl HS6.out.tol (A' := some ⟨w5.heap.size, 0, none⟩) (m := 1) (c' := 1) (us := [.int .i64 7, .int .i64 g.n, .slice t.1 g.b.length t.2]) rfl (RV.of_blk HU6.out) rfl (by intro v hv; simp only [List.mem_cons, List.not_mem_nil, or_false] at hv; rcases hv with rfl | rfl | rfl <;> rfl) (by unfold maxLen; omega) (by omega) hB6 (by intro h; cases h) ?_
      intro A2 c2 w7 ho7 hg7 hA7
      have hO7 : Only (fun b => l.AT.map (·.block) = some b) w6 w7 := Only.of_grown hg7 fun k e => e
      have hS7 := HS6.out.blk.only hO7 (fun e => own_blk_ne2 HS6.out.tol HS6.out.blk (by decide) e)
      have hG7 := HG6.out.only hO7 (fun e => by
        have h3 := (Own.row HS.out.tol gg e).2
        omega)
      have hSC7 : SC w7 := by rw [HSd.out]; exact ⟨⟨hS7.cell 3, hS7.frozen 3, hS7.lt⟩, ⟨hG7.cell 0, hG7.cell 1, hG7.cell 2, hG7.lt⟩⟩
      refine hK.out _ _ hSC7 (fun hHeld => ?_)
      obtain ⟨hSn, hOn⟩ := HS6.out.tell HB6.out (by rw [show gotCells g t = [.int .i64 7, .int .i64 g.n, .slice t.1 g.b.length t.2] from by unfold gotCells; rw [Hgk.out, hk7]]; exact ho7) hg7
      have hlow : ∀ b, b = gp ∨ l.AT.map (·.block) = some b → B ≤ b := fun b e => by
        rcases e with e | e
        · rw [e]; exact HS.out.low
        · exact (Own.row HS.out.tol b e).1
      have hRn := HRf6.out.only hOn (fun b cs hb e => by
        rcases e with e | e
        · rw [e] at hb; exact absurd (blkT_eq hb.ty HS6.out.blk.ty) (by decide)
        · obtain ⟨h1, -, -⟩ := ownG_form HS6.out.tol b e
          obtain ⟨cs2, h2⟩ := own_ty HS6.out.tol h1
          exact absurd (blkT_eq hb.ty h2.ty) (by decide)) hlow
      have Hpost := Lib.hid (show PCallPost B gp AC nC cC st gs TA l c w (.returned (.tuple #[])) (w7.setCell ⟨gp, 3, none⟩ (.slice A2 (st.told.length + 1) c2)) from by
        unfold PCallPost
        rw [Hca.out, Hcr.out]
        have hj := Hj.out
        refine ⟨rfl, (HOw6.out.mono fun b _ e => by rw [e]; exact hBm).trans (hOn.mono fun b _ e => hlow b e), t, _, hSn, ?_⟩
        show RfM _ B gs (st.rs.set (st.jOf c) ((st.rs.getD (st.jOf c) ([], 0)).1, a)) none
        rw [← hj, List.getD_eq_getElem?_getD, Hr.out]
        exact hRn)
      have t4 : w7.cell? ⟨gp, 3, none⟩ = some (.slice l.AT st.told.length l.cT) := hS7.cell 3
      have tf4 := hS7.frozen 3
      have tl7 := hS7.lt
      clear hK K hHeld ho7 hg7 hA7 hO7 hS7 hG7 hSC7 hSn hOn hRn HSd hlow
      refine fun hInv => ⟨by kernel_rfl, ?_⟩
      clear hInv
      simp only [List.drop_succ_cons, List.drop_zero]
      clear SC
      go_wp2_with fail
      go_end0
      exact Hpost.out
    · have hG4 := HG3.out.only hO4 (fun e => by have h := HRd3.out.blk.ty; rw [← e] at h; exact absurd (blkT_eq h HG3.out.ty) (by decide))
      have hcr : callR c r.1 r.2 = some (.error f) := by unfold callR; simp [hk7, hM, Except.map]
      have herr := PcErr.num HAg.out hG4 hR4 hO4 hcr
      have g1 : w4.cell? ⟨gg, 1, none⟩ = some (.int .i64 0) := hG4.cell 1
      have g2 : w4.cell? ⟨gg, 2, none⟩ = some (.slice none 0 0) := hG4.cell 2
      have gf := hG4.frozen 1
      have gf2 := hG4.frozen 2
      have gl := hG4.lt
      have hf := callR_err herr.call
      obtain ⟨w5, hw5⟩ : ∃ w', w' = w4.setCell ⟨gg, 1, none⟩ (.int .i64 0) := ⟨_, rfl⟩
      have herr := show PcErr w3 c gm mA mc r gg (f) w5 from by rw [hw5]; exact herr
      have Hw5 := Lib.hid hw5
      obtain ⟨a5, hR5⟩ := herr.rd
      have hOw5 : Only (fun b => b = gm) w w5 := (Only.of_fresh Hb3.out).more herr.only fun b hb e => e.resolve_right (by omega)
      have hS5 := HS.out.only hOw5 (fun b ty hb ht e => by rw [e] at hb; exact ht (blkT_eq hb HRd0.out.blk.ty))
      have hRf5 := (HR.out.go Hm.out Hr.out HAB.out Hsl.out Hrl.out hOw5 hR5).2
      have r2 : w5.cell? ⟨gm, 2, none⟩ = some (.int .i64 (f)) := hR5.c2
      have r2l := hR5.blk.lt
      have Hpost := Lib.hid (show PCallPost B gp AC nC cC st gs TA l c w (.returned (.tuple #[])) w5 from by
        unfold PCallPost
        rw [Hca.out, herr.call]
        have hj := Hj.out
        refine ⟨rfl, hOw5.mono fun b _ e => by rw [e]; exact hBm, hS5, ?_⟩
        rw [← hj]
        exact hRf5)
      clear hw5 herr hR5 hOw5 hS5 hRf5 hG4 hR4 hO4 hcr hM
      go_upto_region 19 with (fail)
      rw [← Hw5.out]
      clear Hw5 g1 g2 gf gf2 gl
      go_wp2_with fail
      go_end0
      exact Hpost.out
  by_cases hk8 : c.kind = 8
  · as_aux_lemma =>
    go_wp2_with fail
    refine (rfLeft_any gm mc r.2 mA r.1 0 w3 HRd3.out (by have := Hrl.out.1; omega)).mono ?_
    rintro e w4 ⟨rfl, mm, hw4⟩
    have hO4 : Only (fun b => b = gm) w3 w4 := by rw [hw4]; exact (Only.refl _ w3).drewN mm
    have hR4 : RR w4 gm mA mc r.1 r.2 0 := by rw [hw4]; exact HRd3.out.drewN mm
    have hG4 := HG3.out.only hO4 (fun e => by have h := HRd3.out.blk.ty; rw [← e] at h; exact absurd (blkT_eq h HG3.out.ty) (by decide))
    have hcr : callR c r.1 r.2 = some (.ok (⟨c.kind, ((r.1.length - r.2 : Nat) : Int), []⟩, r.2)) := by unfold callR; simp [hk8]
    have hmid := PcOk.num ((r.1.length - r.2 : Nat) : Int) r.2 HAg.out hG4 hR4 hO4 hcr
    have g1 : w4.cell? ⟨gg, 1, none⟩ = some (.int .i64 0) := hG4.cell 1
    have g2 : w4.cell? ⟨gg, 2, none⟩ = some (.slice none 0 0) := hG4.cell 2
    have gf := hG4.frozen 1
    have gf2 := hG4.frozen 2
    have gl := hG4.lt
    obtain ⟨w5, hw5⟩ : ∃ w', w' = w4.setCell ⟨gg, 1, none⟩ (.int .i64 ((r.1.length - r.2 : Nat) : Int)) := ⟨_, rfl⟩
    have hmid := show PcOk w3 c gm mA mc r gg w5 from by rw [hw5]; exact hmid
    have Hw5 := Lib.hid hw5
    obtain ⟨g, a, t, hcr, hgk, hG5, hB5, hR5, hO5⟩ := hmid.out
    rw [hk8] at hG5
    have hOw5 : Only (fun b => b = gm) w w5 := (Only.of_fresh Hb3.out).more hO5 fun b hb e => e.resolve_right (by omega)
    have hS5 := HS.out.only hOw5 (fun b ty hb ht e => by rw [e] at hb; exact ht (blkT_eq hb HRd0.out.blk.ty))
    have HRf5 := Lib.hid ((HR.out.go Hm.out Hr.out HAB.out Hsl.out Hrl.out hOw5 hR5).1 rfl)
    have HS5 := Lib.hid hS5
    have HB5 := Lib.hid hB5
    have Hcr := Lib.hid hcr
    have Hgk := Lib.hid hgk
    have HOw5 := Lib.hid hOw5
    have r2 : w5.cell? ⟨gm, 2, none⟩ = some (.int .i64 0) := hR5.c2
    have r2l := hR5.blk.lt
    have HR5 := Lib.hid hR5
    have s4 : w5.cell? ⟨gp, 3, none⟩ = some (.slice l.AT st.told.length l.cT) := hS5.blk.cell 3
    have sf4 := hS5.blk.frozen 3
    have sl5 := hS5.blk.lt
    have k0 : w5.cell? ⟨gg, 0, none⟩ = some (.int .i64 8) := hG5.cell 0
    have k1 : w5.cell? ⟨gg, 1, none⟩ = some (.int .i64 g.n) := hG5.cell 1
    have k2 : w5.cell? ⟨gg, 2, none⟩ = some (.slice t.1 g.b.length t.2) := hG5.cell 2
    have kl := hG5.lt
    have HG5 := Lib.hid hG5
    clear hw5 hmid hcr hgk hG5 hB5 hO5 hOw5 hS5 hR5 hG4 hR4 hO4 hw4
    go_upto_region 19 with (fail)
    rw [← Hw5.out]
    clear Hw5 g1 g2 gf gf2 gl
    go_upto_region 20 with (fail)
    obtain ⟨SC, hSCd⟩ : ∃ S : World → Prop, S = fun w' => (w'.cell? ⟨gp, 3, none⟩ = some (.slice l.AT st.told.length l.cT) ∧ w'.frozen? ⟨gp, 3, none⟩ = false ∧ gp < w'.heap.size) ∧ (w'.cell? ⟨gg, 0, none⟩ = some (.int .i64 8) ∧ w'.cell? ⟨gg, 1, none⟩ = some (.int .i64 g.n) ∧ w'.cell? ⟨gg, 2, none⟩ = some (.slice t.1 g.b.length t.2) ∧ gg < w'.heap.size) := ⟨_, rfl⟩
    have hSC : SC w5.drew := by rw [hSCd]; exact ⟨⟨s4, sf4, sl5⟩, ⟨k0, k1, k2, kl⟩⟩
    have HSC := Lib.hid (show SC w5.drew from hSC)
    have HSd := Lib.hid hSCd
    clear hSC hSCd
    refine region_heldT 8 SC (by kernel_rfl) (by decide) ?_
    refine HeadW.take 0 (v := pv gp) rfl (by kernel_rfl) (by kernel_rfl) (by kernel_rfl) (by decide) (by decide) (fun _ _ _ hL => seqB_ready hL.1) (by kernel_rfl) (by kernel_rfl) (fun _ _ _ h => h) HSC.out (.inl ⟨by kernel_rfl, by intro w hSw; rw [HSd.out] at hSw; obtain ⟨⟨e0, f0, l0⟩, ⟨e1, e2, e3, l1⟩⟩ := hSw; go_simp⟩) ?_
    simp only [Act.put, List.setIfInBounds_toArray]
    refine HeadW.take 1 (v := pv gp) rfl (by kernel_rfl) (by kernel_rfl) (by kernel_rfl) (by decide) (by decide) (fun _ _ _ hL => seqB_ready hL.1) (by kernel_rfl) (by kernel_rfl) (fun _ _ _ h => h) HSC.out (.inl ⟨by kernel_rfl, by intro w hSw; rw [HSd.out] at hSw; obtain ⟨⟨e0, f0, l0⟩, ⟨e1, e2, e3, l1⟩⟩ := hSw; go_simp⟩) ?_
    simp only [Act.put]
    refine HeadW.take 2 (v := pv gp) rfl (by kernel_rfl) (by kernel_rfl) (by kernel_rfl) (by decide) (by decide) (fun _ _ _ hL => seqB_ready hL.1) (by kernel_rfl) (by kernel_rfl) (fun _ _ _ h => h) HSC.out (.inl ⟨by kernel_rfl, by intro w hSw; rw [HSd.out] at hSw; obtain ⟨⟨e0, f0, l0⟩, ⟨e1, e2, e3, l1⟩⟩ := hSw; go_simp⟩) ?_
    simp only [Act.put]
    refine HeadW.take 3 (v := .pointer (some ⟨gp, 3, none⟩)) rfl (by kernel_rfl) (by kernel_rfl) (by kernel_rfl) (by decide) (by decide) (fun _ _ _ hL => seqB_ready hL.1) (by kernel_rfl) (by kernel_rfl) (fun _ _ _ h => h) HSC.out (.inl ⟨by kernel_rfl, by intro w hSw; rw [HSd.out] at hSw; obtain ⟨⟨e0, f0, l0⟩, ⟨e1, e2, e3, l1⟩⟩ := hSw; go_simp⟩) ?_
    simp only [Act.put]
    refine HeadW.take 4 (v := .slice l.AT st.told.length l.cT) rfl (by kernel_rfl) (by kernel_rfl) (by kernel_rfl) (by decide) (by decide) (fun _ _ _ hL => seqB_ready hL.1) (by kernel_rfl) (by kernel_rfl) (fun _ _ _ h => h) HSC.out (.inl ⟨by kernel_rfl, by intro w hSw; rw [HSd.out] at hSw; obtain ⟨⟨e0, f0, l0⟩, ⟨e1, e2, e3, l1⟩⟩ := hSw; go_simp⟩) ?_
    simp only [Act.put]
    refine HeadW.take 5 (v := .agg #[.int .i64 8, .int .i64 g.n, .slice t.1 g.b.length t.2]) rfl (by kernel_rfl) (by kernel_rfl) (by kernel_rfl) (by decide) (by decide) (fun _ _ _ hL => seqB_ready hL.1) (by kernel_rfl) (by kernel_rfl) (fun _ _ _ h => h) HSC.out (.inl ⟨by kernel_rfl, by intro w hSw; rw [HSd.out] at hSw; obtain ⟨⟨e0, f0, l0⟩, ⟨e1, e2, e3, l1⟩⟩ := hSw; go_simp⟩) ?_
    simp only [Act.put]
    clear s4 sf4 sl5 k0 k1 k2 kl r2 r2l
    refine headW_one 6 rfl (by decide) (by kernel_rfl) (by kernel_rfl) fun K hK => ?_
    go_simp
    obtain ⟨w6, hw6⟩ : ∃ w', w' = (w5.alloc (.cells #[.int .i64 8, .int .i64 g.n, .slice t.1 g.b.length t.2] 71)).drew := ⟨_, rfl⟩
    rw [← hw6]
    have hb56 : Below w5.heap.size w5 w6 := by rw [hw6]; exact ((Below.refl _ _).alloc (Nat.le_refl _) _).drew
    have hU6 : Blk w6 w5.heap.size 71 #[.int .i64 8, .int .i64 g.n, .slice t.1 g.b.length t.2] := by rw [hw6]; exact Blk.new w5 _ _
    have HS6 := Lib.hid (HS5.out.below hb56)
    have HG6 := Lib.hid (HG5.out.below hb56 HG5.out.lt)
    have HB6 := Lib.hid (HB5.out.only (S := fun _ => False) (Only.of_fresh hb56) fun _ _ h => h)
    have HRf6 := Lib.hid (HRf5.out.below hb56)
    have HU6 := Lib.hid hU6
    have HOw6 := Lib.hid (HOw5.out.trans (Only.of_fresh hb56))
    have hB6 : B ≤ w6.heap.size := by have := HOw6.out.size; omega
    have hSC6 : SC w6 := by rw [HSd.out]; exact ⟨⟨HS6.out.blk.cell 3, HS6.out.blk.frozen 3, HS6.out.blk.lt⟩, ⟨HG6.out.cell 0, HG6.out.cell 1, HG6.out.cell 2, HG6.out.lt⟩⟩
    refine hK.out _ _ hSC6 (fun hHeld => ?_)
    clear hK K hHeld hw6 hb56 hU6 hSC6 HSC
    refine headW_one 7 rfl (by decide) (by kernel_rfl) (by kernel_rfl) fun K hK => ?_
    refine wp_app (.tmp 74) (.tmp 76) eGot rfl rfl HS6.out.tol (A' := some ⟨w5.heap.size, 0, none⟩) (m := 1) (c' := 1) (us := [.int .i64 8, .int .i64 g.n, .slice t.1 g.b.length t.2]) rfl (RV.of_blk HU6.out) rfl (by intro v hv; simp only [List.mem_cons, List.not_mem_nil, or_false] at hv; rcases hv with rfl | rfl | rfl <;> rfl) (by unfold maxLen; omega) (by omega) hB6 (by intro h; cases h) ?_
    intro A2 c2 w7 ho7 hg7 hA7
    have hO7 : Only (fun b => l.AT.map (·.block) = some b) w6 w7 := Only.of_grown hg7 fun k e => e
    have hS7 := HS6.out.blk.only hO7 (fun e => own_blk_ne2 HS6.out.tol HS6.out.blk (by decide) e)
    have hG7 := HG6.out.only hO7 (fun e => by
      have h3 := (Own.row HS.out.tol gg e).2
      omega)
    have hSC7 : SC w7 := by rw [HSd.out]; exact ⟨⟨hS7.cell 3, hS7.frozen 3, hS7.lt⟩, ⟨hG7.cell 0, hG7.cell 1, hG7.cell 2, hG7.lt⟩⟩
    refine hK.out _ _ hSC7 (fun hHeld => ?_)
    obtain ⟨hSn, hOn⟩ := HS6.out.tell HB6.out (by rw [show gotCells g t = [.int .i64 8, .int .i64 g.n, .slice t.1 g.b.length t.2] from by unfold gotCells; rw [Hgk.out, hk8]]; exact ho7) hg7
    have hlow : ∀ b, b = gp ∨ l.AT.map (·.block) = some b → B ≤ b := fun b e => by
      rcases e with e | e
      · rw [e]; exact HS.out.low
      · exact (Own.row HS.out.tol b e).1
    have hRn := HRf6.out.only hOn (fun b cs hb e => by
      rcases e with e | e
      · rw [e] at hb; exact absurd (blkT_eq hb.ty HS6.out.blk.ty) (by decide)
      · obtain ⟨h1, -, -⟩ := ownG_form HS6.out.tol b e
        obtain ⟨cs2, h2⟩ := own_ty HS6.out.tol h1
        exact absurd (blkT_eq hb.ty h2.ty) (by decide)) hlow
    have Hpost := Lib.hid (show PCallPost B gp AC nC cC st gs TA l c w (.returned (.tuple #[])) (w7.setCell ⟨gp, 3, none⟩ (.slice A2 (st.told.length + 1) c2)) from by
      unfold PCallPost
      rw [Hca.out, Hcr.out]
      have hj := Hj.out
      refine ⟨rfl, (HOw6.out.mono fun b _ e => by rw [e]; exact hBm).trans (hOn.mono fun b _ e => hlow b e), t, _, hSn, ?_⟩
      show RfM _ B gs (st.rs.set (st.jOf c) ((st.rs.getD (st.jOf c) ([], 0)).1, a)) none
      rw [← hj, List.getD_eq_getElem?_getD, Hr.out]
      exact hRn)
    have t4 : w7.cell? ⟨gp, 3, none⟩ = some (.slice l.AT st.told.length l.cT) := hS7.cell 3
    have tf4 := hS7.frozen 3
    have tl7 := hS7.lt
    clear hK K hHeld ho7 hg7 hA7 hO7 hS7 hG7 hSC7 hSn hOn hRn HSd hlow
    refine fun hInv => ⟨by kernel_rfl, ?_⟩
    clear hInv
    simp only [List.drop_succ_cons, List.drop_zero]
    clear SC
    go_wp2_with fail
    go_end0
    exact Hpost.out
  by_cases hk9 : c.kind = 9
  · as_aux_lemma =>
    have hO4 : Only (fun b => b = gm) w3 (w3.setCell ⟨gm, 2, none⟩ (.int .i64 c.n)) := (Only.refl (fun b => b = gm) w3).setCell (p := ⟨gm, 2, none⟩) (.inl rfl) _
    have hR4 := HRd3.out.setF c.n
    have hG4 := HG3.out.only hO4 (fun e => by have h := HRd3.out.blk.ty; rw [← e] at h; exact absurd (blkT_eq h HG3.out.ty) (by decide))
    have q2 := HRd3.out.c2
    have q2f := HRd3.out.blk.frozen 2
    have q2l := HRd3.out.blk.lt
    by_cases hn0 : c.n = 0
    · have hcr : callR c r.1 r.2 = some (.ok (⟨c.kind, 0, []⟩, r.2)) := by unfold callR; simp [hk9, hn0]
      rw [hn0] at hR4 hO4 hG4 bn3
      have hmid := PcOk.nil r.2 hG4 hR4 hO4 hcr
      clear hn0
      obtain ⟨w5, hw5⟩ : ∃ w', w' = w3.setCell ⟨gm, 2, none⟩ (.int .i64 0) := ⟨_, rfl⟩
      have hmid := show PcOk w3 c gm mA mc r gg w5 from by rw [hw5]; exact hmid
      have Hw5 := Lib.hid hw5
      obtain ⟨g, a, t, hcr, hgk, hG5, hB5, hR5, hO5⟩ := hmid.out
      rw [hk9] at hG5
      have hOw5 : Only (fun b => b = gm) w w5 := (Only.of_fresh Hb3.out).more hO5 fun b hb e => e.resolve_right (by omega)
      have hS5 := HS.out.only hOw5 (fun b ty hb ht e => by rw [e] at hb; exact ht (blkT_eq hb HRd0.out.blk.ty))
      have HRf5 := Lib.hid ((HR.out.go Hm.out Hr.out HAB.out Hsl.out Hrl.out hOw5 hR5).1 rfl)
      have HS5 := Lib.hid hS5
      have HB5 := Lib.hid hB5
      have Hcr := Lib.hid hcr
      have Hgk := Lib.hid hgk
      have HOw5 := Lib.hid hOw5
      have r2 : w5.cell? ⟨gm, 2, none⟩ = some (.int .i64 0) := hR5.c2
      have r2l := hR5.blk.lt
      have HR5 := Lib.hid hR5
      have s4 : w5.cell? ⟨gp, 3, none⟩ = some (.slice l.AT st.told.length l.cT) := hS5.blk.cell 3
      have sf4 := hS5.blk.frozen 3
      have sl5 := hS5.blk.lt
      have k0 : w5.cell? ⟨gg, 0, none⟩ = some (.int .i64 9) := hG5.cell 0
      have k1 : w5.cell? ⟨gg, 1, none⟩ = some (.int .i64 g.n) := hG5.cell 1
      have k2 : w5.cell? ⟨gg, 2, none⟩ = some (.slice t.1 g.b.length t.2) := hG5.cell 2
      have kl := hG5.lt
      have HG5 := Lib.hid hG5
      clear hw5 hmid hcr hgk hG5 hB5 hO5 hOw5 hS5 hR5 hG4 hR4 hO4
      go_upto_region 19 with (fail)
      rw [← Hw5.out]
      clear Hw5 q2 q2f q2l
      go_upto_region 20 with (fail)
      obtain ⟨SC, hSCd⟩ : ∃ S : World → Prop, S = fun w' => (w'.cell? ⟨gp, 3, none⟩ = some (.slice l.AT st.told.length l.cT) ∧ w'.frozen? ⟨gp, 3, none⟩ = false ∧ gp < w'.heap.size) ∧ (w'.cell? ⟨gg, 0, none⟩ = some (.int .i64 9) ∧ w'.cell? ⟨gg, 1, none⟩ = some (.int .i64 g.n) ∧ w'.cell? ⟨gg, 2, none⟩ = some (.slice t.1 g.b.length t.2) ∧ gg < w'.heap.size) := ⟨_, rfl⟩
      have hSC : SC w5.drew := by rw [hSCd]; exact ⟨⟨s4, sf4, sl5⟩, ⟨k0, k1, k2, kl⟩⟩
      have HSC := Lib.hid (show SC w5.drew from hSC)
      have HSd := Lib.hid hSCd
      clear hSC hSCd
      refine region_heldT 8 SC (by kernel_rfl) (by decide) ?_
      refine HeadW.take 0 (v := pv gp) rfl (by kernel_rfl) (by kernel_rfl) (by kernel_rfl) (by decide) (by decide) (fun _ _ _ hL => seqB_ready hL.1) (by kernel_rfl) (by kernel_rfl) (fun _ _ _ h => h) HSC.out (.inl ⟨by kernel_rfl, by intro w hSw; rw [HSd.out] at hSw; obtain ⟨⟨e0, f0, l0⟩, ⟨e1, e2, e3, l1⟩⟩ := hSw; go_simp⟩) ?_
      simp only [Act.put, List.setIfInBounds_toArray]
      refine HeadW.take 1 (v := pv gp) rfl (by kernel_rfl) (by kernel_rfl) (by kernel_rfl) (by decide) (by decide) (fun _ _ _ hL => seqB_ready hL.1) (by kernel_rfl) (by kernel_rfl) (fun _ _ _ h => h) HSC.out (.inl ⟨by kernel_rfl, by intro w hSw; rw [HSd.out] at hSw; obtain ⟨⟨e0, f0, l0⟩, ⟨e1, e2, e3, l1⟩⟩ := hSw; go_simp⟩) ?_
      simp only [Act.put]
      refine HeadW.take 2 (v := pv gp) rfl (by kernel_rfl) (by kernel_rfl) (by kernel_rfl) (by decide) (by decide) (fun _ _ _ hL => seqB_ready hL.1) (by kernel_rfl) (by kernel_rfl) (fun _ _ _ h => h) HSC.out (.inl ⟨by kernel_rfl, by intro w hSw; rw [HSd.out] at hSw; obtain ⟨⟨e0, f0, l0⟩, ⟨e1, e2, e3, l1⟩⟩ := hSw; go_simp⟩) ?_
      simp only [Act.put]
      refine HeadW.take 3 (v := .pointer (some ⟨gp, 3, none⟩)) rfl (by kernel_rfl) (by kernel_rfl) (by kernel_rfl) (by decide) (by decide) (fun _ _ _ hL => seqB_ready hL.1) (by kernel_rfl) (by kernel_rfl) (fun _ _ _ h => h) HSC.out (.inl ⟨by kernel_rfl, by intro w hSw; rw [HSd.out] at hSw; obtain ⟨⟨e0, f0, l0⟩, ⟨e1, e2, e3, l1⟩⟩ := hSw; go_simp⟩) ?_
      simp only [Act.put]
      refine HeadW.take 4 (v := .slice l.AT st.told.length l.cT) rfl (by kernel_rfl) (by kernel_rfl) (by kernel_rfl) (by decide) (by decide) (fun _ _ _ hL => seqB_ready hL.1) (by kernel_rfl) (by kernel_rfl) (fun _ _ _ h => h) HSC.out (.inl ⟨by kernel_rfl, by intro w hSw; rw [HSd.out] at hSw; obtain ⟨⟨e0, f0, l0⟩, ⟨e1, e2, e3, l1⟩⟩ := hSw; go_simp⟩) ?_
      simp only [Act.put]
      refine HeadW.take 5 (v := .agg #[.int .i64 9, .int .i64 g.n, .slice t.1 g.b.length t.2]) rfl (by kernel_rfl) (by kernel_rfl) (by kernel_rfl) (by decide) (by decide) (fun _ _ _ hL => seqB_ready hL.1) (by kernel_rfl) (by kernel_rfl) (fun _ _ _ h => h) HSC.out (.inl ⟨by kernel_rfl, by intro w hSw; rw [HSd.out] at hSw; obtain ⟨⟨e0, f0, l0⟩, ⟨e1, e2, e3, l1⟩⟩ := hSw; go_simp⟩) ?_
      simp only [Act.put]
      clear s4 sf4 sl5 k0 k1 k2 kl r2 r2l
      refine headW_one 6 rfl (by decide) (by kernel_rfl) (by kernel_rfl) fun K hK => ?_
      go_simp
      obtain ⟨w6, hw6⟩ : ∃ w', w' = (w5.alloc (.cells #[.int .i64 9, .int .i64 g.n, .slice t.1 g.b.length t.2] 71)).drew := ⟨_, rfl⟩
      rw [← hw6]
      have hb56 : Below w5.heap.size w5 w6 := by rw [hw6]; exact ((Below.refl _ _).alloc (Nat.le_refl _) _).drew
      have hU6 : Blk w6 w5.heap.size 71 #[.int .i64 9, .int .i64 g.n, .slice t.1 g.b.length t.2] := by rw [hw6]; exact Blk.new w5 _ _
      have HS6 := Lib.hid (HS5.out.below hb56)
      have HG6 := Lib.hid (HG5.out.below hb56 HG5.out.lt)
      have HB6 := Lib.hid (HB5.out.only (S := fun _ => False) (Only.of_fresh hb56) fun _ _ h => h)
      have HRf6 := Lib.hid (HRf5.out.below hb56)
      have HU6 := Lib.hid hU6
      have HOw6 := Lib.hid (HOw5.out.trans (Only.of_fresh hb56))
      have hB6 : B ≤ w6.heap.size := by have := HOw6.out.size; omega
      have hSC6 : SC w6 := by rw [HSd.out]; exact ⟨⟨HS6.out.blk.cell 3, HS6.out.blk.frozen 3, HS6.out.blk.lt⟩, ⟨HG6.out.cell 0, HG6.out.cell 1, HG6.out.cell 2, HG6.out.lt⟩⟩
      refine hK.out _ _ hSC6 (fun hHeld => ?_)
      clear hK K hHeld hw6 hb56 hU6 hSC6 HSC
      refine headW_one 7 rfl (by decide) (by kernel_rfl) (by kernel_rfl) fun K hK => ?_
      refine wp_app (.tmp 74) (.tmp 76) eGot rfl rfl HS6.out.tol (A' := some ⟨w5.heap.size, 0, none⟩) (m := 1) (c' := 1) (us := [.int .i64 9, .int .i64 g.n, .slice t.1 g.b.length t.2]) rfl (RV.of_blk HU6.out) rfl (by intro v hv; simp only [List.mem_cons, List.not_mem_nil, or_false] at hv; rcases hv with rfl | rfl | rfl <;> rfl) (by unfold maxLen; omega) (by omega) hB6 (by intro h; cases h) ?_
      intro A2 c2 w7 ho7 hg7 hA7
      have hO7 : Only (fun b => l.AT.map (·.block) = some b) w6 w7 := Only.of_grown hg7 fun k e => e
      have hS7 := HS6.out.blk.only hO7 (fun e => own_blk_ne2 HS6.out.tol HS6.out.blk (by decide) e)
      have hG7 := HG6.out.only hO7 (fun e => by
        have h3 := (Own.row HS.out.tol gg e).2
        omega)
      have hSC7 : SC w7 := by rw [HSd.out]; exact ⟨⟨hS7.cell 3, hS7.frozen 3, hS7.lt⟩, ⟨hG7.cell 0, hG7.cell 1, hG7.cell 2, hG7.lt⟩⟩
      refine hK.out _ _ hSC7 (fun hHeld => ?_)
      obtain ⟨hSn, hOn⟩ := HS6.out.tell HB6.out (by rw [show gotCells g t = [.int .i64 9, .int .i64 g.n, .slice t.1 g.b.length t.2] from by unfold gotCells; rw [Hgk.out, hk9]]; exact ho7) hg7
      have hlow : ∀ b, b = gp ∨ l.AT.map (·.block) = some b → B ≤ b := fun b e => by
        rcases e with e | e
        · rw [e]; exact HS.out.low
        · exact (Own.row HS.out.tol b e).1
      have hRn := HRf6.out.only hOn (fun b cs hb e => by
        rcases e with e | e
        · rw [e] at hb; exact absurd (blkT_eq hb.ty HS6.out.blk.ty) (by decide)
        · obtain ⟨h1, -, -⟩ := ownG_form HS6.out.tol b e
          obtain ⟨cs2, h2⟩ := own_ty HS6.out.tol h1
          exact absurd (blkT_eq hb.ty h2.ty) (by decide)) hlow
      have Hpost := Lib.hid (show PCallPost B gp AC nC cC st gs TA l c w (.returned (.tuple #[])) (w7.setCell ⟨gp, 3, none⟩ (.slice A2 (st.told.length + 1) c2)) from by
        unfold PCallPost
        rw [Hca.out, Hcr.out]
        have hj := Hj.out
        refine ⟨rfl, (HOw6.out.mono fun b _ e => by rw [e]; exact hBm).trans (hOn.mono fun b _ e => hlow b e), t, _, hSn, ?_⟩
        show RfM _ B gs (st.rs.set (st.jOf c) ((st.rs.getD (st.jOf c) ([], 0)).1, a)) none
        rw [← hj, List.getD_eq_getElem?_getD, Hr.out]
        exact hRn)
      have t4 : w7.cell? ⟨gp, 3, none⟩ = some (.slice l.AT st.told.length l.cT) := hS7.cell 3
      have tf4 := hS7.frozen 3
      have tl7 := hS7.lt
      clear hK K hHeld ho7 hg7 hA7 hO7 hS7 hG7 hSC7 hSn hOn hRn HSd hlow
      refine fun hInv => ⟨by kernel_rfl, ?_⟩
      clear hInv
      simp only [List.drop_succ_cons, List.drop_zero]
      clear SC
      go_wp2_with fail
      go_end0
      exact Hpost.out
    · have hcr : callR c r.1 r.2 = some (.error c.n) := by unfold callR; simp [hk9, hn0]
      have herr : PcErr w3 c gm mA mc r gg c.n (w3.setCell ⟨gm, 2, none⟩ (.int .i64 c.n)) := ⟨hcr, ⟨_, hR4⟩, hO4.mono fun _ _ e => .inl e⟩
      have hf := callR_err herr.call
      obtain ⟨w5, hw5⟩ : ∃ w', w' = w3.setCell ⟨gm, 2, none⟩ (.int .i64 c.n) := ⟨_, rfl⟩
      have herr := show PcErr w3 c gm mA mc r gg (c.n) w5 from by rw [hw5]; exact herr
      have Hw5 := Lib.hid hw5
      obtain ⟨a5, hR5⟩ := herr.rd
      have hOw5 : Only (fun b => b = gm) w w5 := (Only.of_fresh Hb3.out).more herr.only fun b hb e => e.resolve_right (by omega)
      have hS5 := HS.out.only hOw5 (fun b ty hb ht e => by rw [e] at hb; exact ht (blkT_eq hb HRd0.out.blk.ty))
      have hRf5 := (HR.out.go Hm.out Hr.out HAB.out Hsl.out Hrl.out hOw5 hR5).2
      have r2 : w5.cell? ⟨gm, 2, none⟩ = some (.int .i64 (c.n)) := hR5.c2
      have r2l := hR5.blk.lt
      have Hpost := Lib.hid (show PCallPost B gp AC nC cC st gs TA l c w (.returned (.tuple #[])) w5 from by
        unfold PCallPost
        rw [Hca.out, herr.call]
        have hj := Hj.out
        refine ⟨rfl, hOw5.mono fun b _ e => by rw [e]; exact hBm, hS5, ?_⟩
        rw [← hj]
        exact hRf5)
      clear hw5 herr hR5 hOw5 hS5 hRf5 hG4 hR4 hO4 hcr
      go_upto_region 19 with (fail)
      rw [← Hw5.out]
      clear Hw5 q2 q2f q2l
      go_wp2_with fail
      go_end0
      exact Hpost.out
  have hcr : callR c r.1 r.2 = none := by unfold callR; simp [hk1, hk2, hk3, hk4, hk5, hk6, hk7, hk8, hk9]
  have Hpost := Lib.hid (show PCallPost B gp AC nC cC st gs TA l c w (.returned (.tuple #[])) w3 from by
    unfold PCallPost
    rw [Hca.out, hcr]
    exact ⟨rfl, Only.of_fresh Hb3.out, HS.out.below Hb3.out, HR.out.below Hb3.out⟩)
  clear hcr
  go_wp2_with fail
  go_end0
  exact Hpost.out
end Go.Proofs.Ytefaapcekbgjoaa
