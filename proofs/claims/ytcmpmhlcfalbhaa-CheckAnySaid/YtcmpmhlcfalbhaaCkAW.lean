/- The law CheckAny, walked (printed by gen_ckaw.py). -/
import Derived.Test.YtcmpmhlcfalbhaaCkKp
import Derived.Test.YtcmpmhlcfalbhaaLwPa
namespace Go.Proofs.Ytcmpmhlcfalbhaa
open Go.RowKit

theorem two_cells {w : World} {b off : Nat} {l : List Ins} (hc : ∀ j u, (l.flatMap insCells)[j]? = some u → w.cell? ⟨b, off + j, none⟩ = some u) (k : Nat) (hk : k < l.length) :
    w.cell? ⟨b, off + k * 2, none⟩ = some (.int .i64 l[k].op) ∧ w.cell? ⟨b, off + k * 2 + 1, none⟩ = some (.int .i64 l[k].a) := by
  have hg : ∀ (l : List Ins) (k j : Nat) (hk : k < l.length), j < 2 → (l.flatMap insCells)[k * 2 + j]? = (insCells l[k])[j]? := by
    intro l
    induction l with
    | nil => intro k j hk; cases hk
    | cons x l ih =>
      intro k j hk hj
      rw [List.flatMap_cons]
      cases k with
      | zero => rw [Nat.zero_mul, Nat.zero_add, List.getElem?_append_left (by simp [insCells]; omega)]; rfl
      | succ k =>
        rw [List.getElem?_append_right (by simp [insCells]; omega), show (k + 1) * 2 + j - (insCells x).length = k * 2 + j from by simp [insCells]; omega]
        exact ih k j (by simpa using hk) hj
  have q0 := hc _ _ (hg l k 0 hk (by omega))
  have q1 := hc _ _ (hg l k 1 hk (by omega))
  rw [← Nat.add_assoc] at q1
  exact ⟨q0, q1⟩
theorem own_max {w : World} {base size n c : Nat} {e : TypeId} {A : Option Addr} {vs : List Value} (h : Own w base e size A n c vs) : n ≤ maxLen := by
  rcases h.2 with ⟨_, h0⟩ | ⟨g, cap, cur, hv, hg, hh, hnc, hcm, _, _⟩
  · unfold maxLen; omega
  · omega
set_option maxRecDepth 100000 in
set_option maxHeartbeats 20000000 in
theorem checkAny_walk (p : PrgM) (A : Option Addr) (c : Nat) (l : List Ins) (w : World) (hp : PrgAt w p) (hl : RV w A (l.flatMap insCells)) (hll : l.length ≤ 8796093021952) : Calls Try.prog 4 #[p.val, .slice A l.length c] w fun e w' => e = .returned (.bool true) ∧ Below w.heap.size w w' := by
  obtain ⟨N, hN⟩ : ∃ N, N = l.length := ⟨_, rfl⟩
  rw [← hN] at hll ⊢
  have HN := Lib.hid hN
  have HP := Lib.hid hp
  have HL := Lib.hid hl
  obtain ⟨w1, hw1⟩ : ∃ w1, w1 = w.alloc (.cells #[.int .i64 p.mem, .slice p.AD p.data.length p.cD, .slice p.AF p.fs.length p.cF] 26) := ⟨_, rfl⟩
  have hb1 : Below w.heap.size w w1 := by rw [hw1]; exact (Below.refl _ _).alloc (Nat.le_refl _) _
  obtain ⟨gx, hgx⟩ : ∃ g, g = w.heap.size := ⟨_, rfl⟩
  have hX : Blk w1 gx 26 #[.int .i64 p.mem, .slice p.AD p.data.length p.cD, .slice p.AF p.fs.length p.cF] := by rw [hw1, hgx]; exact Blk.new _ _ _
  have HX := Lib.hid hX
  have HB1 := Lib.hid hb1
  have Hw1 := Lib.hid hw1
  have Hgx := Lib.hid hgx
  have HA := Lib.hid (all13_any p w1 (hp.below hb1))
  have x0 : w1.cell? ⟨gx, 0, none⟩ = some (.int .i64 p.mem) := hX.cell 0
  have x1 : w1.cell? ⟨gx, 1, none⟩ = some (.slice p.AD p.data.length p.cD) := hX.cell 1
  have x2 : w1.cell? ⟨gx, 2, none⟩ = some (.slice p.AF p.fs.length p.cF) := hX.cell 2
  have xl := hX.lt
  clear hp hb1 hX hw1 hgx hl hN
  go_enter Try.func4, Try.ntmps4
  go_upto_region 1 with (fail)
  rw [← Hw1.out, ← Hgx.out]
  clear Hw1
  go_wp2_with fail
  refine HA.out.mono ?_
  rintro e w2 ⟨⟨x, rfl⟩, hb2⟩
  have Hb2 := Lib.hid (HB1.out.trans (hb2.mono HB1.out.size))
  have hX2 := HX.out.below hb2 HX.out.lt
  have y0 : w2.cell? ⟨gx, 0, none⟩ = some (.int .i64 p.mem) := hX2.cell 0
  have y1 : w2.cell? ⟨gx, 1, none⟩ = some (.slice p.AD p.data.length p.cD) := hX2.cell 1
  have y2 : w2.cell? ⟨gx, 2, none⟩ = some (.slice p.AF p.fs.length p.cF) := hX2.cell 2
  have yl := hX2.lt
  have HX2 := Lib.hid hX2
  have Hgl := Lib.hid (show w.heap.size ≤ gx ∧ gx < w2.heap.size from ⟨by rw [Hgx.out]; exact Nat.le_refl _, yl⟩)
  clear hb2 hX2 x0 x1 x2 xl HA HX
  by_cases hx : 4000 < x
  · go_wp2_with fail
    refine (head13_any _).mono ?_
    rintro e wh ⟨rfl, hbh⟩
    have HBh := Lib.hid (Hb2.out.trans (hbh.mono Hb2.out.size))
    clear hbh
    go_wp2_with fail
    go_ret
    exact ⟨rfl, HBh.out⟩
  · by_cases hf : 4096 < (p.fs.length : Int)
    · go_wp2_with fail
      refine (head13_any _).mono ?_
      rintro e wh ⟨rfl, hbh⟩
      have HBh := Lib.hid (Hb2.out.trans (hbh.mono Hb2.out.size))
      clear hbh
      go_wp2_with fail
      go_ret
      exact ⟨rfl, HBh.out⟩
    · have HLd := Lib.hid (lend13_any p w2 (HP.out.below Hb2.out) (by omega))
      go_wp2_with fail
      refine HLd.out.mono ?_
      rintro e w3 ⟨q, rfl, hpl, hLt, hb3⟩
      dsimp only [PrgM.val]
      obtain ⟨gq, hgq⟩ : ∃ g, g = w3.heap.size := ⟨_, rfl⟩
      obtain ⟨w4, hw4⟩ : ∃ w4, w4 = w3.alloc (.cells #[.int .i64 q.mem, .slice q.AD q.data.length q.cD, .slice q.AF q.fs.length q.cF] 26) := ⟨_, rfl⟩
      have hb34 : Below w3.heap.size w3 w4 := by rw [hw4]; exact (Below.refl _ _).alloc (Nat.le_refl _) _
      have hQ4 : Blk w4 gq 26 #[.int .i64 q.mem, .slice q.AD q.data.length q.cD, .slice q.AF q.fs.length q.cF] := by rw [hw4, hgq]; exact Blk.new _ _ _
      have Hw4 := Lib.hid hw4
      have Hgq := Lib.hid hgq
      have HQ4 := Lib.hid hQ4
      have hb24 : Below w2.heap.size w2 w4 := hb3.trans (hb34.mono hb3.size)
      have HX4 := Lib.hid (HX2.out.below hb24 yl)
      have HX4b := Lib.hid (HX2.out.below hb24 yl)
      have HLt := Lib.hid (hLt.below hb34)
      have Hpl := Lib.hid hpl
      have Hb4 := Lib.hid (show Below w.heap.size w w4 ∧ w2.heap.size ≤ w4.heap.size from ⟨Hb2.out.trans (hb24.mono Hb2.out.size), hb24.size⟩)
      have HP4 := Lib.hid (HP.out.below Hb4.out.1)
      have hqa : PrgAt w4 q := by
        have h := HP4.out.ok
        rw [← hpl] at h
        exact HLt.out.mine.at_ h
      have HQa := Lib.hid hqa
      have HQa4 := Lib.hid hqa
      clear hw4 hgq hQ4 hb34 hb24 hb3 hLt hpl hqa HLd y0 y1 y2 yl HX2
      go_wp2_with fail
      rw [← Hgq.out, ← Hw4.out]
      clear Hw4 Hgq
      clear HQa HX4
      go_loopw [6, 7, 8] (fun i lv kv wy => ∃ j : Nat, j ≤ N ∧ i = .int .i64 (j : Int) ∧ Below w4.heap.size w4 wy) (fun i _ _ _ => N - (intOf i).toNat)
      case atStart => exact ⟨0, Nat.zero_le _, rfl, Below.refl _ _⟩
      case round =>
        rename World => wy
        obtain ⟨j, hj, rfl, hby⟩ := hrel
        have hQy := HQ4.out.below hby HQ4.out.lt
        have q0 : wy.cell? ⟨gq, 0, none⟩ = some (.int .i64 q.mem) := hQy.cell 0
        have q1 : wy.cell? ⟨gq, 1, none⟩ = some (.slice q.AD q.data.length q.cD) := hQy.cell 1
        have q2 : wy.cell? ⟨gq, 2, none⟩ = some (.slice q.AF q.fs.length q.cF) := hQy.cell 2
        have ql := hQy.lt
        have hXy := HX4b.out.below hby HX4b.out.lt
        have y0 : wy.cell? ⟨gx, 0, none⟩ = some (.int .i64 p.mem) := hXy.cell 0
        have y1 : wy.cell? ⟨gx, 1, none⟩ = some (.slice p.AD p.data.length p.cD) := hXy.cell 1
        have y2 : wy.cell? ⟨gx, 2, none⟩ = some (.slice p.AF p.fs.length p.cF) := hXy.cell 2
        have yl := hXy.lt
        have HQy := Lib.hid hQy
        have HBy := Lib.hid hby
        clear hQy hXy hby
        have hout : ∀ wz, wz = wy → Calls Try.prog 20 #[.agg #[.int .i64 q.mem, .slice q.AD q.data.length q.cD, .slice q.AF q.fs.length q.cF], .agg #[.int .i64 p.mem, .slice p.AD p.data.length p.cD, .slice p.AF p.fs.length p.cF]] wy fun e w' => e = .returned (.bool true) ∧ Below w2.heap.size wy w' := fun _ _ => kept13_any p q w2.heap.size wy (HP4.out.below HBy.out) Hpl.out (HLt.out.below HBy.out) (Nat.le_trans Hb4.out.2 HBy.out.size)
        have HK := Lib.hid (hout wy rfl)
        clear hout
        by_cases hlt : j < N
        · have g1 : (j : Int) < (N : Int) := by omega
          by_cases h200 : (j : Int) < 200
          · obtain ⟨b, off, hA, hb, hc⟩ := (HL.out.below (Hb4.out.1.trans (HBy.out.mono Hb4.out.1.size))).at_ (by
              rw [show (l.flatMap insCells).length = l.length * 2 from by
                clear HN HL
                induction l with
                | nil => rfl
                | cons y l ih => rw [List.flatMap_cons, List.length_append, ih, List.length_cons]; simp [insCells]; omega]
              have := HN.out; omega)
            subst hA
            obtain ⟨s0, s1⟩ := two_cells hc j (by have := HN.out; omega)
            obtain ⟨sf, hsf⟩ : ∃ x, x = (l[j]'(by have := HN.out; omega)).op := ⟨_, rfl⟩
            obtain ⟨sn, hsn⟩ : ∃ x, x = (l[j]'(by have := HN.out; omega)).a := ⟨_, rfl⟩
            rw [← hsf] at s0
            rw [← hsn] at s1
            have HNx := Lib.hid (next_any q sf sn wy.drew (HQa4.out.below (HBy.out.drew)))
            have Hc := Lib.hid (show b < wy.heap.size ∧ wy.cell? ⟨b, off + j * 2, none⟩ = some (.int .i64 sf) ∧ wy.cell? ⟨b, off + j * 2 + 1, none⟩ = some (.int .i64 sn) from ⟨hb, s0, s1⟩)
            clear hc hsf hsn HK y0 y1 y2 yl
            go_wp2_with fail
            obtain ⟨SC, hSCd⟩ : ∃ S : World → Prop, S = (fun w' => (w'.cell? ⟨gq, 0, none⟩ = some (.int .i64 q.mem) ∧ gq < w'.heap.size) ∧ (w'.cell? ⟨gq, 1, none⟩ = some (.slice q.AD q.data.length q.cD) ∧ gq < w'.heap.size) ∧ (w'.cell? ⟨gq, 2, none⟩ = some (.slice q.AF q.fs.length q.cF) ∧ gq < w'.heap.size) ∧ (w'.cell? ⟨b, off + j * 2, none⟩ = some (.int .i64 sf) ∧ b < w'.heap.size) ∧ (w'.cell? ⟨b, off + j * 2 + 1, none⟩ = some (.int .i64 sn) ∧ b < w'.heap.size)) := ⟨_, rfl⟩
            have hSC : SC wy.drew := by rw [hSCd]; exact ⟨⟨q0, ql⟩, ⟨q1, ql⟩, ⟨q2, ql⟩, ⟨s0, hb⟩, ⟨s1, hb⟩⟩
            have HSC := Lib.hid (show SC wy.drew from hSC)
            have HSd := Lib.hid hSCd
            clear hSC hSCd
            refine region_heldT 6 SC (by kernel_rfl) (by decide) ?_
            refine HeadW.take 0 (v := .agg #[.int .i64 q.mem, .slice q.AD q.data.length q.cD, .slice q.AF q.fs.length q.cF]) rfl (by kernel_rfl) (by kernel_rfl) (by kernel_rfl) (by decide) (by decide) (fun _ _ _ hL => seqB_ready hL.1) (by kernel_rfl) (by kernel_rfl) (fun _ _ _ h => h) HSC.out (.inl ⟨by kernel_rfl, by intro w hSw; rw [HSd.out] at hSw; obtain ⟨⟨e0, k0⟩, ⟨e1, k1⟩, ⟨e2, k2⟩, ⟨e3, k3⟩, ⟨e4, k4⟩⟩ := hSw; go_simp⟩) ?_
            simp only [Act.put, List.setIfInBounds_toArray]
            refine HeadW.take 1 (v := .slice (some ⟨b, off, none⟩) N c) rfl (by kernel_rfl) (by kernel_rfl) (by kernel_rfl) (by decide) (by decide) (fun _ _ _ hL => seqB_ready hL.1) (by kernel_rfl) (by kernel_rfl) (fun _ _ _ h => h) HSC.out (.inl ⟨by kernel_rfl, by intro w hSw; rw [HSd.out] at hSw; obtain ⟨⟨e0, k0⟩, ⟨e1, k1⟩, ⟨e2, k2⟩, ⟨e3, k3⟩, ⟨e4, k4⟩⟩ := hSw; go_simp⟩) ?_
            simp only [Act.put]
            refine HeadW.take 2 (v := .int .i64 (j : Int)) rfl (by kernel_rfl) (by kernel_rfl) (by kernel_rfl) (by decide) (by decide) (fun _ _ _ hL => seqB_ready hL.1) (by kernel_rfl) (by kernel_rfl) (fun _ _ _ h => h) HSC.out (.inl ⟨by kernel_rfl, by intro w hSw; rw [HSd.out] at hSw; obtain ⟨⟨e0, k0⟩, ⟨e1, k1⟩, ⟨e2, k2⟩, ⟨e3, k3⟩, ⟨e4, k4⟩⟩ := hSw; go_simp⟩) ?_
            simp only [Act.put]
            refine HeadW.take 3 (v := .pointer (some ⟨b, off + j * 2, none⟩)) rfl (by kernel_rfl) (by kernel_rfl) (by kernel_rfl) (by decide) (by decide) (fun _ _ _ hL => seqB_ready hL.1) (by kernel_rfl) (by kernel_rfl) (fun _ _ _ h => h) HSC.out (.inl ⟨by kernel_rfl, by intro w hSw; rw [HSd.out] at hSw; obtain ⟨⟨e0, k0⟩, ⟨e1, k1⟩, ⟨e2, k2⟩, ⟨e3, k3⟩, ⟨e4, k4⟩⟩ := hSw; go_simp⟩) ?_
            simp only [Act.put]
            refine HeadW.take 4 (v := .agg #[.int .i64 sf, .int .i64 sn]) rfl (by kernel_rfl) (by kernel_rfl) (by kernel_rfl) (by decide) (by decide) (fun _ _ _ hL => seqB_ready hL.1) (by kernel_rfl) (by kernel_rfl) (fun _ _ _ h => h) HSC.out (.inl ⟨by kernel_rfl, by intro w hSw; rw [HSd.out] at hSw; obtain ⟨⟨e0, k0⟩, ⟨e1, k1⟩, ⟨e2, k2⟩, ⟨e3, k3⟩, ⟨e4, k4⟩⟩ := hSw; go_simp⟩) ?_
            simp only [Act.put]
            refine headW_one 5 rfl (by decide) (by kernel_rfl) (by kernel_rfl) fun K hK => ?_
            go_simp
            refine HNx.out.mono ?_
            rintro e w5 ⟨A5, c5, rfl, hO5, hbr⟩
            obtain ⟨ln, hln⟩ : ∃ n, n = (nextL q.plain sf sn).length := ⟨_, rfl⟩
            rw [← hln] at hO5 ⊢
            have HO5 := Lib.hid hO5
            clear hO5 hln
            have hbn : Below wy.heap.size wy w5 := (Below.refl _ wy).drew.trans hbr
            have hSCn : SC w5 := by
              have h := HSC.out
              rw [HSd.out] at h ⊢
              obtain ⟨⟨e0, k0⟩, ⟨e1, k1⟩, ⟨e2, k2⟩, ⟨e3, k3⟩, ⟨e4, k4⟩⟩ := h
              obtain ⟨hc, -⟩ := bcell hbn
              have hz := hbn.size
              exact ⟨⟨(hc _ _ k0).trans e0, Nat.lt_of_lt_of_le k0 hz⟩, ⟨(hc _ _ k1).trans e1, Nat.lt_of_lt_of_le k1 hz⟩, ⟨(hc _ _ k2).trans e2, Nat.lt_of_lt_of_le k2 hz⟩, ⟨(hc _ _ k3).trans e3, Nat.lt_of_lt_of_le k3 hz⟩, ⟨(hc _ _ k4).trans e4, Nat.lt_of_lt_of_le k4 hz⟩⟩
            refine hK.out _ _ hSCn (fun hHeld => ?_)
            clear hK K hHeld
            have Hbn := Lib.hid hbn
            clear hbr hbn
            refine fun hInv => ⟨by kernel_rfl, ?_⟩
            clear hInv
            simp only [List.drop_succ_cons, List.drop_zero]
            clear HSC HSd hSCn
            clear SC
            go_wp2_with fail
            obtain ⟨vs5, hv5⟩ : ∃ vs, Own w5 wy.heap.size 3 1 A5 ln c5 vs := ⟨_, HO5.out⟩
            clear q0 q1 q2 ql s0 s1 hb
            go_loopw [8] (fun kv wz => ∃ k : Nat, k ≤ ln ∧ kv = .int .i64 (k : Int) ∧ AnyOwn wz wy.heap.size 3 1 A5 ln c5 ∧ Below wy.heap.size wy wz) (fun kv _ => ln - (intOf kv).toNat)
            case atStart => exact ⟨0, Nat.zero_le _, rfl, ⟨vs5, hv5⟩, Hbn.out⟩
            case round =>
              rename World => wz
              obtain ⟨k, hk, rfl, hAn, hbz⟩ := hrel
              have HAn := Lib.hid hAn
              have HBz := Lib.hid hbz
              clear hAn hbz hv5
              by_cases hltk : k < ln
              · have g2 : (k : Int) < (ln : Int) := by omega
                obtain ⟨vs, hv⟩ := HAn.out
                have hvl := hv.1
                obtain ⟨g9, rfl, hg9a, hg9b⟩ := own_some hv (by omega)
                obtain ⟨o0, r0, l5z⟩ := own_at hv k (by omega)
                have hlm := own_max hv
                unfold maxLen at hlm
                obtain ⟨v0, o0'⟩ : ∃ v, wz.cell? ⟨g9, k, none⟩ = some v := ⟨_, o0⟩
                clear o0
                clear hv hvl
                go_wp2_with fail
                refine ⟨⟨k + 1, by omega, by first | rfl | go_num, HAn.out.set _ _ _, HBz.out.setCell hg9a _⟩, by simp [intOf]; omega⟩
              · have hQz := HQy.out.below HBz.out HQy.out.lt
                have q0 : wz.cell? ⟨gq, 0, none⟩ = some (.int .i64 q.mem) := hQz.cell 0
                have q1 : wz.cell? ⟨gq, 1, none⟩ = some (.slice q.AD q.data.length q.cD) := hQz.cell 1
                have q2 : wz.cell? ⟨gq, 2, none⟩ = some (.slice q.AF q.fs.length q.cF) := hQz.cell 2
                have ql := hQz.lt
                obtain ⟨hcz, -⟩ := bcell HBz.out
                have s0 : wz.cell? ⟨b, off + j * 2, none⟩ = some (.int .i64 sf) := (hcz _ _ Hc.out.1).trans Hc.out.2.1
                have s1 : wz.cell? ⟨b, off + j * 2 + 1, none⟩ = some (.int .i64 sn) := (hcz _ _ Hc.out.1).trans Hc.out.2.2
                have hb : b < wz.heap.size := Nat.lt_of_lt_of_le Hc.out.1 HBz.out.size
                have HTk := Lib.hid (takes_any q sf sn wz.drew (HQa4.out.below ((HBy.out.trans (HBz.out.mono HBy.out.size)).drew)))
                clear hQz hcz Hbn
                go_wp2_with fail
                obtain ⟨SC, hSCd⟩ : ∃ S : World → Prop, S = (fun w' => (w'.cell? ⟨gq, 0, none⟩ = some (.int .i64 q.mem) ∧ gq < w'.heap.size) ∧ (w'.cell? ⟨gq, 1, none⟩ = some (.slice q.AD q.data.length q.cD) ∧ gq < w'.heap.size) ∧ (w'.cell? ⟨gq, 2, none⟩ = some (.slice q.AF q.fs.length q.cF) ∧ gq < w'.heap.size) ∧ (w'.cell? ⟨b, off + j * 2, none⟩ = some (.int .i64 sf) ∧ b < w'.heap.size) ∧ (w'.cell? ⟨b, off + j * 2 + 1, none⟩ = some (.int .i64 sn) ∧ b < w'.heap.size)) := ⟨_, rfl⟩
                have hSC : SC wz.drew := by rw [hSCd]; exact ⟨⟨q0, ql⟩, ⟨q1, ql⟩, ⟨q2, ql⟩, ⟨s0, hb⟩, ⟨s1, hb⟩⟩
                have HSC := Lib.hid (show SC wz.drew from hSC)
                have HSd := Lib.hid hSCd
                clear hSC hSCd
                refine region_heldT 6 SC (by kernel_rfl) (by decide) ?_
                refine HeadW.takeA 0 (v := .agg #[.int .i64 q.mem, .slice q.AD q.data.length q.cD, .slice q.AF q.fs.length q.cF]) rfl (by kernel_rfl) rfl (by decide) (fun _ _ _ hL => seqB_ready hL.1) (by kernel_rfl) (by kernel_rfl) (fun _ _ _ h => h) HSC.out (.inl ⟨by kernel_rfl, by intro w hSw; rw [HSd.out] at hSw; obtain ⟨⟨e0, k0⟩, ⟨e1, k1⟩, ⟨e2, k2⟩, ⟨e3, k3⟩, ⟨e4, k4⟩⟩ := hSw; go_simp⟩) ?_
                simp only [Act.put, List.setIfInBounds_toArray]
                refine HeadW.takeA 1 (v := .slice (some ⟨b, off, none⟩) N c) rfl (by kernel_rfl) rfl (by decide) (fun _ _ _ hL => seqB_ready hL.1) (by kernel_rfl) (by kernel_rfl) (fun _ _ _ h => h) HSC.out (.inl ⟨by kernel_rfl, by intro w hSw; rw [HSd.out] at hSw; obtain ⟨⟨e0, k0⟩, ⟨e1, k1⟩, ⟨e2, k2⟩, ⟨e3, k3⟩, ⟨e4, k4⟩⟩ := hSw; go_simp⟩) ?_
                simp only [Act.put]
                refine HeadW.takeA 2 (v := .int .i64 (j : Int)) rfl (by kernel_rfl) rfl (by decide) (fun _ _ _ hL => seqB_ready hL.1) (by kernel_rfl) (by kernel_rfl) (fun _ _ _ h => h) HSC.out (.inl ⟨by kernel_rfl, by intro w hSw; rw [HSd.out] at hSw; obtain ⟨⟨e0, k0⟩, ⟨e1, k1⟩, ⟨e2, k2⟩, ⟨e3, k3⟩, ⟨e4, k4⟩⟩ := hSw; go_simp⟩) ?_
                simp only [Act.put]
                refine HeadW.takeA 3 (v := .pointer (some ⟨b, off + j * 2, none⟩)) rfl (by kernel_rfl) rfl (by decide) (fun _ _ _ hL => seqB_ready hL.1) (by kernel_rfl) (by kernel_rfl) (fun _ _ _ h => h) HSC.out (.inl ⟨by kernel_rfl, by intro w hSw; rw [HSd.out] at hSw; obtain ⟨⟨e0, k0⟩, ⟨e1, k1⟩, ⟨e2, k2⟩, ⟨e3, k3⟩, ⟨e4, k4⟩⟩ := hSw; go_simp⟩) ?_
                simp only [Act.put]
                refine HeadW.takeA 4 (v := .agg #[.int .i64 sf, .int .i64 sn]) rfl (by kernel_rfl) rfl (by decide) (fun _ _ _ hL => seqB_ready hL.1) (by kernel_rfl) (by kernel_rfl) (fun _ _ _ h => h) HSC.out (.inl ⟨by kernel_rfl, by intro w hSw; rw [HSd.out] at hSw; obtain ⟨⟨e0, k0⟩, ⟨e1, k1⟩, ⟨e2, k2⟩, ⟨e3, k3⟩, ⟨e4, k4⟩⟩ := hSw; go_simp⟩) ?_
                simp only [Act.put]
                refine headW_one 5 rfl (by decide) (by kernel_rfl) (by kernel_rfl) fun K hK => ?_
                go_simp
                refine HTk.out.mono ?_
                rintro e w5 ⟨rfl, hbr⟩
                have hbn : Below wz.heap.size wz w5 := (Below.refl _ wz).drew.trans hbr
                have hSCn : SC w5 := by
                  have h := HSC.out
                  rw [HSd.out] at h ⊢
                  obtain ⟨⟨e0, k0⟩, ⟨e1, k1⟩, ⟨e2, k2⟩, ⟨e3, k3⟩, ⟨e4, k4⟩⟩ := h
                  obtain ⟨hc, -⟩ := bcell hbn
                  have hz := hbn.size
                  exact ⟨⟨(hc _ _ k0).trans e0, Nat.lt_of_lt_of_le k0 hz⟩, ⟨(hc _ _ k1).trans e1, Nat.lt_of_lt_of_le k1 hz⟩, ⟨(hc _ _ k2).trans e2, Nat.lt_of_lt_of_le k2 hz⟩, ⟨(hc _ _ k3).trans e3, Nat.lt_of_lt_of_le k3 hz⟩, ⟨(hc _ _ k4).trans e4, Nat.lt_of_lt_of_le k4 hz⟩⟩
                refine hK.out _ _ hSCn (fun hHeld => ?_)
                clear hK K hHeld
                have Hbn := Lib.hid hbn
                clear hbr hbn
                refine fun hInv => ⟨by kernel_rfl, ?_⟩
                clear hInv
                simp only [List.drop_succ_cons, List.drop_zero]
                clear HSC HSd hSCn
                clear SC
                go_wp2_with fail
                refine ⟨⟨j + 1, by omega, by first | rfl | go_num, HBy.out.trans ((HBz.out.trans (Hbn.out.mono HBz.out.size)).mono HBy.out.size)⟩, by simp [intOf]; omega⟩
          · go_wp2_with fail
            refine HK.out.mono ?_
            rintro e w6 ⟨rfl, hb6⟩
            have HB6 := Lib.hid (show Below w.heap.size w w6 from Hb4.out.1.trans ((HBy.out.mono Hb4.out.1.size).trans (hb6.mono Hb2.out.size)))
            clear hb6
            go_wp2_with fail
            refine (head13_any _).mono ?_
            rintro e w7 ⟨rfl, hb7⟩
            have HB7 := Lib.hid (HB6.out.trans (hb7.mono HB6.out.size))
            clear hb7
            go_wp2_with fail
            go_ret
            exact ⟨rfl, HB7.out⟩
        · go_wp2_with fail
          refine HK.out.mono ?_
          rintro e w6 ⟨rfl, hb6⟩
          have HB6 := Lib.hid (show Below w.heap.size w w6 from Hb4.out.1.trans ((HBy.out.mono Hb4.out.1.size).trans (hb6.mono Hb2.out.size)))
          clear hb6
          go_wp2_with fail
          refine (head13_any _).mono ?_
          rintro e w7 ⟨rfl, hb7⟩
          have HB7 := Lib.hid (HB6.out.trans (hb7.mono HB6.out.size))
          clear hb7
          go_wp2_with fail
          go_ret
          exact ⟨rfl, HB7.out⟩
end Go.Proofs.Ytcmpmhlcfalbhaa
