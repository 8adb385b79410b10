/- The law CheckNexts, walked (printed by gen_cknw.py). -/
import Derived.Test.YtcmpmhlcfalbhaaCkPa
import Derived.Test.YtcmpmhlcfalbhaaChW
import Derived.Test.YtcmpmhlcfalbhaaChRM
import Derived.Test.YtcmpmhlcfalbhaaPrgC
namespace Go.Proofs.Ytcmpmhlcfalbhaa
open Go.RowKit

theorem two_cells {w : World} {b off : Nat} {l : List Ins} (hc : ∀ j u, (l.flatMap insCells)[j]? = some u → w.cell? ⟨b, off + j, none⟩ = some u) (k : Nat) (hk : k < l.length) :
    w.cell? ⟨b, off + k * 2, none⟩ = some (.int .i64 l[k].op) ∧ w.cell? ⟨b, off + k * 2 + 1, none⟩ = some (.int .i64 l[k].a) := by
  have hg : ∀ (l : List Ins) (k j : Nat) (hk : k < l.length), j < 2 → (l.flatMap insCells)[k * 2 + j]? = (insCells l[k])[j]? := by
    intro l
    induction l with
    | nil => intro k j hk; cases hk
    | cons x l ih =>
      intro k j hk hj
      rw [List.flatMap_cons]
      cases k with
      | zero => rw [Nat.zero_mul, Nat.zero_add, List.getElem?_append_left (by simp [insCells]; omega)]; rfl
      | succ k =>
        rw [List.getElem?_append_right (by simp [insCells]; omega), show (k + 1) * 2 + j - (insCells x).length = k * 2 + j from by simp [insCells]; omega]
        exact ih k j (by simpa using hk) hj
  have q0 := hc _ _ (hg l k 0 hk (by omega))
  have q1 := hc _ _ (hg l k 1 hk (by omega))
  rw [← Nat.add_assoc] at q1
  exact ⟨q0, q1⟩
theorem own_max {w : World} {base size n c : Nat} {e : TypeId} {A : Option Addr} {vs : List Value} (h : Own w base e size A n c vs) : n ≤ maxLen := by
  rcases h.2 with ⟨_, h0⟩ | ⟨g, cap, cur, hv, hg, hh, hnc, hcm, _, _⟩
  · unfold maxLen; omega
  · omega
theorem takes_same {P : Prg} (h : checkL P = 0) (f n : Int) : takesR P f n = takesL P f n := by
  cases hi : P.ins f n with
  | none => unfold takesR takesL; rw [hi]
  | some i =>
    have hf : 0 ≤ f ∧ 0 ≤ n := by
      unfold Prg.ins at hi
      split at hi
      · cases hi
      · constructor <;> omega
    obtain ⟨a, rfl⟩ := Int.eq_ofNat_of_zero_le hf.1
    obtain ⟨b, rfl⟩ := Int.eq_ofNat_of_zero_le hf.2
    exact (ins_facts h hi).same
theorem check_small {P : Prg} (h : checkL P = 0) : P.fs.length ≤ 64 := by
  unfold checkL at h
  split at h
  · omega
  · rename_i hb
    have := badH_not (by simpa using hb)
    omega
set_option maxRecDepth 100000 in
set_option maxHeartbeats 20000000 in
theorem checkNexts_walk (p : PrgM) (A : Option Addr) (c : Nat) (l : List Ins) (w : World) (hp : PrgAt w p) (hl : RV w A (l.flatMap insCells)) (hll : l.length ≤ 8796093021952) : Calls Try.prog 6 #[p.val, .slice A l.length c] w fun e w' => e = .returned (.bool true) ∧ Below w.heap.size w w' := by
  obtain ⟨N, hN⟩ : ∃ N, N = l.length := ⟨_, rfl⟩
  rw [← hN] at hll ⊢
  have HN := Lib.hid hN
  have HP := Lib.hid hp
  have HL := Lib.hid hl
  obtain ⟨w1, hw1⟩ : ∃ w1, w1 = w.alloc (.cells #[.int .i64 p.mem, .slice p.AD p.data.length p.cD, .slice p.AF p.fs.length p.cF] 26) := ⟨_, rfl⟩
  have hb1 : Below w.heap.size w w1 := by rw [hw1]; exact (Below.refl _ _).alloc (Nat.le_refl _) _
  obtain ⟨gx, hgx⟩ : ∃ g, g = w.heap.size := ⟨_, rfl⟩
  have hX : Blk w1 gx 26 #[.int .i64 p.mem, .slice p.AD p.data.length p.cD, .slice p.AF p.fs.length p.cF] := by rw [hw1, hgx]; exact Blk.new _ _ _
  have HX := Lib.hid hX
  have HB1 := Lib.hid hb1
  have Hw1 := Lib.hid hw1
  have Hgx := Lib.hid hgx
  have HA := Lib.hid (refCheck_any p w1 (hp.below hb1))
  have x0 : w1.cell? ⟨gx, 0, none⟩ = some (.int .i64 p.mem) := hX.cell 0
  have x1 : w1.cell? ⟨gx, 1, none⟩ = some (.slice p.AD p.data.length p.cD) := hX.cell 1
  have x2 : w1.cell? ⟨gx, 2, none⟩ = some (.slice p.AF p.fs.length p.cF) := hX.cell 2
  have xl := hX.lt
  clear hp hb1 hX hw1 hgx hl hN
  go_enter Try.func6, Try.ntmps6
  go_upto_region 1 with (fail)
  rw [← Hw1.out, ← Hgx.out]
  clear Hw1
  go_wp2_with fail
  obtain ⟨x, hx⟩ : ∃ x, x = checkL p.plain := ⟨_, rfl⟩
  have Hx := Lib.hid hx
  clear hx
  refine HA.out.mono ?_
  rw [← Hx.out]
  rintro e w2 ⟨rfl, hb2⟩
  have Hb2 := Lib.hid (HB1.out.trans (hb2.mono HB1.out.size))
  have hX2 := HX.out.below hb2 HX.out.lt
  have y0 : w2.cell? ⟨gx, 0, none⟩ = some (.int .i64 p.mem) := hX2.cell 0
  have y1 : w2.cell? ⟨gx, 1, none⟩ = some (.slice p.AD p.data.length p.cD) := hX2.cell 1
  have y2 : w2.cell? ⟨gx, 2, none⟩ = some (.slice p.AF p.fs.length p.cF) := hX2.cell 2
  have yl := hX2.lt
  have HX2 := Lib.hid hX2
  have Hgl := Lib.hid (show w.heap.size ≤ gx ∧ gx < w2.heap.size from ⟨by rw [Hgx.out]; exact Nat.le_refl _, yl⟩)
  clear hb2 hX2 x0 x1 x2 xl HA HX
  by_cases hx : x = 0
  · subst hx
    have hch : checkL p.plain = 0 := Hx.out.symm
    have h64 : p.fs.length ≤ 64 := by
      have h := check_small hch
      change (p.fs.map FunM.plain).length ≤ 64 at h
      rwa [List.length_map] at h
    have Hch := Lib.hid hch
    clear hch Hx y0 y1 y2 yl
    go_wp2_with fail
    go_loopw [5] (fun i wy => ∃ j : Nat, j ≤ N ∧ i = .int .i64 (j : Int) ∧ Below w2.heap.size w2 wy) (fun i _ => N - (intOf i).toNat)
    case atStart => exact ⟨0, Nat.zero_le _, rfl, Below.refl _ _⟩
    case round =>
      rename World => wy
      obtain ⟨j, hj, rfl, hby⟩ := hrel
      have hXy := HX2.out.below hby HX2.out.lt
      have y0 : wy.cell? ⟨gx, 0, none⟩ = some (.int .i64 p.mem) := hXy.cell 0
      have y1 : wy.cell? ⟨gx, 1, none⟩ = some (.slice p.AD p.data.length p.cD) := hXy.cell 1
      have y2 : wy.cell? ⟨gx, 2, none⟩ = some (.slice p.AF p.fs.length p.cF) := hXy.cell 2
      have yl := hXy.lt
      have HXy := Lib.hid hXy
      have HBy := Lib.hid hby
      have HPy := Lib.hid (HP.out.below (Hb2.out.trans (hby.mono Hb2.out.size)))
      clear hXy hby
      by_cases hlt : j < N
      · have g1 : (j : Int) < (N : Int) := by omega
        obtain ⟨b, off, hA, hb, hc⟩ := (HL.out.below (Hb2.out.trans (HBy.out.mono Hb2.out.size))).at_ (by
          rw [show (l.flatMap insCells).length = l.length * 2 from by
            clear HN HL
            induction l with
            | nil => rfl
            | cons y l ih => rw [List.flatMap_cons, List.length_append, ih, List.length_cons]; simp [insCells]; omega]
          have := HN.out; omega)
        subst hA
        obtain ⟨s0, s1⟩ := two_cells hc j (by have := HN.out; omega)
        obtain ⟨sf, hsf⟩ : ∃ x, x = (l[j]'(by have := HN.out; omega)).op := ⟨_, rfl⟩
        obtain ⟨sn, hsn⟩ : ∃ x, x = (l[j]'(by have := HN.out; omega)).a := ⟨_, rfl⟩
        rw [← hsf] at s0
        rw [← hsn] at s1
        have Hc := Lib.hid (show b < wy.heap.size ∧ wy.cell? ⟨b, off + j * 2, none⟩ = some (.int .i64 sf) ∧ wy.cell? ⟨b, off + j * 2 + 1, none⟩ = some (.int .i64 sn) from ⟨hb, s0, s1⟩)
        clear hc hsf hsn
        have HLd := Lib.hid (lend13_any p wy HPy.out (by omega))
        go_wp2_with fail
        refine HLd.out.mono ?_
        rintro e w3 ⟨q, rfl, hpl, hLt, hb3⟩
        dsimp only [PrgM.val]
        obtain ⟨gq, hgq⟩ : ∃ g, g = w3.heap.size := ⟨_, rfl⟩
        obtain ⟨w4, hw4⟩ : ∃ w4, w4 = w3.alloc (.cells #[.int .i64 q.mem, .slice q.AD q.data.length q.cD, .slice q.AF q.fs.length q.cF] 26) := ⟨_, rfl⟩
        have hb34 : Below w3.heap.size w3 w4 := by rw [hw4]; exact (Below.refl _ _).alloc (Nat.le_refl _) _
        have hQ4 : Blk w4 gq 26 #[.int .i64 q.mem, .slice q.AD q.data.length q.cD, .slice q.AF q.fs.length q.cF] := by rw [hw4, hgq]; exact Blk.new _ _ _
        have Hw4 := Lib.hid hw4
        have Hgq := Lib.hid hgq
        have HQ4 := Lib.hid hQ4
        have hby4 : Below wy.heap.size wy w4 := hb3.trans (hb34.mono hb3.size)
        have HX4 := Lib.hid (HXy.out.below hby4 yl)
        have HL3 := Lib.hid hLt
        have HLt := Lib.hid (hLt.below hb34)
        have Hpl := Lib.hid hpl
        have Hby4 := Lib.hid hby4
        have Hz3 := Lib.hid (show wy.heap.size ≤ w3.heap.size ∧ w3.heap.size ≤ w4.heap.size ∧ gq = w3.heap.size from ⟨hb3.size, hb34.size, hgq⟩)
        have HP4 := Lib.hid (HPy.out.below hby4)
        have hqa : PrgAt w4 q := by
          have h := HP4.out.ok
          rw [← hpl] at h
          exact HLt.out.mine.at_ h
        have HQa := Lib.hid hqa
        obtain ⟨ln, hln⟩ : ∃ n, n = (nextL p.plain sf sn).length := ⟨_, rfl⟩
        have HNx := Lib.hid (show Calls Try.prog 18 #[q.val, .agg #[.int .i64 sf, .int .i64 sn]] w4.drew (fun e w' => ∃ A c, e = .returned (.slice A ln c) ∧ OwnI w' w4.drew.heap.size A ln c (nextL p.plain sf sn) ∧ Below w4.drew.heap.size w4.drew w') from by rw [hln, ← hpl]; exact next_any q sf sn w4.drew (hqa.below ((Below.refl _ w4).drew)))
        clear hw4 hgq hb34 hb3 hLt hpl hqa HLd y0 y1 y2 yl
        go_wp2_with fail
        generalize hw40 : w3.alloc (.cells #[.int .i64 q.mem, .slice q.AD q.data.length q.cD, .slice q.AF q.fs.length q.cF] 26) = w40
        obtain rfl : w4 = w40 := by rw [← hw40]; exact Hw4.out
        generalize hgq0 : w3.heap.size = gq0
        obtain rfl : gq = gq0 := by rw [← hgq0]; exact Hgq.out
        clear Hw4 Hgq hw40 hgq0
        obtain ⟨hc4, -⟩ := bcell Hby4.out
        have q0 : w4.cell? ⟨gq, 0, none⟩ = some (.int .i64 q.mem) := hQ4.cell 0
        have q1 : w4.cell? ⟨gq, 1, none⟩ = some (.slice q.AD q.data.length q.cD) := hQ4.cell 1
        have q2 : w4.cell? ⟨gq, 2, none⟩ = some (.slice q.AF q.fs.length q.cF) := hQ4.cell 2
        have ql := hQ4.lt
        have s0' : w4.cell? ⟨b, off + j * 2, none⟩ = some (.int .i64 sf) := (hc4 _ _ hb).trans s0
        have s1' : w4.cell? ⟨b, off + j * 2 + 1, none⟩ = some (.int .i64 sn) := (hc4 _ _ hb).trans s1
        have hb' : b < w4.heap.size := Nat.lt_of_lt_of_le hb Hby4.out.size
        clear hQ4 hby4 hc4 s0 s1 hb
        obtain ⟨SC, hSCd⟩ : ∃ S : World → Prop, S = (fun w' => (w'.cell? ⟨gq, 0, none⟩ = some (.int .i64 q.mem) ∧ gq < w'.heap.size) ∧ (w'.cell? ⟨gq, 1, none⟩ = some (.slice q.AD q.data.length q.cD) ∧ gq < w'.heap.size) ∧ (w'.cell? ⟨gq, 2, none⟩ = some (.slice q.AF q.fs.length q.cF) ∧ gq < w'.heap.size) ∧ (w'.cell? ⟨b, off + j * 2, none⟩ = some (.int .i64 sf) ∧ b < w'.heap.size) ∧ (w'.cell? ⟨b, off + j * 2 + 1, none⟩ = some (.int .i64 sn) ∧ b < w'.heap.size)) := ⟨_, rfl⟩
        have hSC : SC w4.drew := by rw [hSCd]; exact ⟨⟨q0, ql⟩, ⟨q1, ql⟩, ⟨q2, ql⟩, ⟨s0', hb'⟩, ⟨s1', hb'⟩⟩
        have HSC := Lib.hid (show SC w4.drew from hSC)
        have HSd := Lib.hid hSCd
        clear hSC hSCd
        refine region_heldT 6 SC (by kernel_rfl) (by decide) ?_
        refine HeadW.take 0 (v := .agg #[.int .i64 q.mem, .slice q.AD q.data.length q.cD, .slice q.AF q.fs.length q.cF]) rfl (by kernel_rfl) (by kernel_rfl) (by kernel_rfl) (by decide) (by decide) (fun _ _ _ hL => seqB_ready hL.1) (by kernel_rfl) (by kernel_rfl) (fun _ _ _ h => h) HSC.out (.inl ⟨by kernel_rfl, by intro w hSw; rw [HSd.out] at hSw; obtain ⟨⟨e0, k0⟩, ⟨e1, k1⟩, ⟨e2, k2⟩, ⟨e3, k3⟩, ⟨e4, k4⟩⟩ := hSw; go_simp⟩) ?_
        simp only [Act.put, List.setIfInBounds_toArray]
        refine HeadW.take 1 (v := .slice (some ⟨b, off, none⟩) N c) rfl (by kernel_rfl) (by kernel_rfl) (by kernel_rfl) (by decide) (by decide) (fun _ _ _ hL => seqB_ready hL.1) (by kernel_rfl) (by kernel_rfl) (fun _ _ _ h => h) HSC.out (.inl ⟨by kernel_rfl, by intro w hSw; rw [HSd.out] at hSw; obtain ⟨⟨e0, k0⟩, ⟨e1, k1⟩, ⟨e2, k2⟩, ⟨e3, k3⟩, ⟨e4, k4⟩⟩ := hSw; go_simp⟩) ?_
        simp only [Act.put]
        refine HeadW.take 2 (v := .int .i64 (j : Int)) rfl (by kernel_rfl) (by kernel_rfl) (by kernel_rfl) (by decide) (by decide) (fun _ _ _ hL => seqB_ready hL.1) (by kernel_rfl) (by kernel_rfl) (fun _ _ _ h => h) HSC.out (.inl ⟨by kernel_rfl, by intro w hSw; rw [HSd.out] at hSw; obtain ⟨⟨e0, k0⟩, ⟨e1, k1⟩, ⟨e2, k2⟩, ⟨e3, k3⟩, ⟨e4, k4⟩⟩ := hSw; go_simp⟩) ?_
        simp only [Act.put]
        refine HeadW.take 3 (v := .pointer (some ⟨b, off + j * 2, none⟩)) rfl (by kernel_rfl) (by kernel_rfl) (by kernel_rfl) (by decide) (by decide) (fun _ _ _ hL => seqB_ready hL.1) (by kernel_rfl) (by kernel_rfl) (fun _ _ _ h => h) HSC.out (.inl ⟨by kernel_rfl, by intro w hSw; rw [HSd.out] at hSw; obtain ⟨⟨e0, k0⟩, ⟨e1, k1⟩, ⟨e2, k2⟩, ⟨e3, k3⟩, ⟨e4, k4⟩⟩ := hSw; go_simp⟩) ?_
        simp only [Act.put]
        refine HeadW.take 4 (v := .agg #[.int .i64 sf, .int .i64 sn]) rfl (by kernel_rfl) (by kernel_rfl) (by kernel_rfl) (by decide) (by decide) (fun _ _ _ hL => seqB_ready hL.1) (by kernel_rfl) (by kernel_rfl) (fun _ _ _ h => h) HSC.out (.inl ⟨by kernel_rfl, by intro w hSw; rw [HSd.out] at hSw; obtain ⟨⟨e0, k0⟩, ⟨e1, k1⟩, ⟨e2, k2⟩, ⟨e3, k3⟩, ⟨e4, k4⟩⟩ := hSw; go_simp⟩) ?_
        simp only [Act.put]
        refine headW_one 5 rfl (by decide) (by kernel_rfl) (by kernel_rfl) fun K hK => ?_
        go_simp
        refine HNx.out.mono ?_
        rintro e w5 ⟨A5, c5, rfl, hO5, hbr⟩
        have HO5 := Lib.hid hO5
        have Hln := Lib.hid hln
        clear hO5 hln
        have hbn : Below w4.heap.size w4 w5 := (Below.refl _ w4).drew.trans hbr
        have hSCn : SC w5 := by
          have h := HSC.out
          rw [HSd.out] at h ⊢
          obtain ⟨⟨e0, k0⟩, ⟨e1, k1⟩, ⟨e2, k2⟩, ⟨e3, k3⟩, ⟨e4, k4⟩⟩ := h
          obtain ⟨hc, -⟩ := bcell hbn
          have hz := hbn.size
          exact ⟨⟨(hc _ _ k0).trans e0, Nat.lt_of_lt_of_le k0 hz⟩, ⟨(hc _ _ k1).trans e1, Nat.lt_of_lt_of_le k1 hz⟩, ⟨(hc _ _ k2).trans e2, Nat.lt_of_lt_of_le k2 hz⟩, ⟨(hc _ _ k3).trans e3, Nat.lt_of_lt_of_le k3 hz⟩, ⟨(hc _ _ k4).trans e4, Nat.lt_of_lt_of_le k4 hz⟩⟩
        refine hK.out _ _ hSCn (fun hHeld => ?_)
        clear hK K hHeld
        have Hbn := Lib.hid hbn
        clear hbr hbn
        refine fun hInv => ⟨by kernel_rfl, ?_⟩
        clear hInv
        simp only [List.drop_succ_cons, List.drop_zero]
        clear HSC HSd hSCn
        clear SC
        go_wp2_with fail
        clear q0 q1 q2 ql s0' s1' hb'
        have hX5 := HX4.out.below Hbn.out HX4.out.lt
        have hQ5 := HQ4.out.below Hbn.out HQ4.out.lt
        have hby5 : Below wy.heap.size wy w5 := Hby4.out.trans (Hbn.out.mono Hby4.out.size)
        obtain ⟨hc5, -⟩ := bcell hby5
        have q0 : w5.cell? ⟨gq, 0, none⟩ = some (.int .i64 q.mem) := hQ5.cell 0
        have q1 : w5.cell? ⟨gq, 1, none⟩ = some (.slice q.AD q.data.length q.cD) := hQ5.cell 1
        have q2 : w5.cell? ⟨gq, 2, none⟩ = some (.slice q.AF q.fs.length q.cF) := hQ5.cell 2
        have ql := hQ5.lt
        have y0 : w5.cell? ⟨gx, 0, none⟩ = some (.int .i64 p.mem) := hX5.cell 0
        have y1 : w5.cell? ⟨gx, 1, none⟩ = some (.slice p.AD p.data.length p.cD) := hX5.cell 1
        have y2 : w5.cell? ⟨gx, 2, none⟩ = some (.slice p.AF p.fs.length p.cF) := hX5.cell 2
        have yl := hX5.lt
        have s0 : w5.cell? ⟨b, off + j * 2, none⟩ = some (.int .i64 sf) := (hc5 _ _ Hc.out.1).trans Hc.out.2.1
        have s1 : w5.cell? ⟨b, off + j * 2 + 1, none⟩ = some (.int .i64 sn) := (hc5 _ _ Hc.out.1).trans Hc.out.2.2
        have hb5 : b < w5.heap.size := Nat.lt_of_lt_of_le Hc.out.1 hby5.size
        have hxy : gx < wy.heap.size := HXy.out.lt
        have HK := Lib.hid (kept13_only p q wy.heap.size w3 w5.drew (HPy.out.below (hby5.drew)) Hpl.out HL3.out (HLt.out.below (Hbn.out.drew)) hby5.size (Nat.le_trans Hz3.out.2.1 Hbn.out.size))
        have Hby5 := Lib.hid hby5
        clear hc5 hX5 hQ5 hby5
        obtain ⟨SC, hSCd⟩ : ∃ S : World → Prop, S = (fun w' => (w'.cell? ⟨gq, 0, none⟩ = some (.int .i64 q.mem) ∧ gq < w'.heap.size) ∧ (w'.cell? ⟨gq, 1, none⟩ = some (.slice q.AD q.data.length q.cD) ∧ gq < w'.heap.size) ∧ (w'.cell? ⟨gq, 2, none⟩ = some (.slice q.AF q.fs.length q.cF) ∧ gq < w'.heap.size) ∧ (w'.cell? ⟨gx, 0, none⟩ = some (.int .i64 p.mem) ∧ gx < w'.heap.size) ∧ (w'.cell? ⟨gx, 1, none⟩ = some (.slice p.AD p.data.length p.cD) ∧ gx < w'.heap.size) ∧ (w'.cell? ⟨gx, 2, none⟩ = some (.slice p.AF p.fs.length p.cF) ∧ gx < w'.heap.size) ∧ (w'.cell? ⟨b, off + j * 2, none⟩ = some (.int .i64 sf) ∧ b < w'.heap.size) ∧ (w'.cell? ⟨b, off + j * 2 + 1, none⟩ = some (.int .i64 sn) ∧ b < w'.heap.size)) := ⟨_, rfl⟩
        have hSC : SC w5.drew := by rw [hSCd]; exact ⟨⟨q0, ql⟩, ⟨q1, ql⟩, ⟨q2, ql⟩, ⟨y0, yl⟩, ⟨y1, yl⟩, ⟨y2, yl⟩, ⟨s0, hb5⟩, ⟨s1, hb5⟩⟩
        have HSC := Lib.hid (show SC w5.drew from hSC)
        have HSd := Lib.hid hSCd
        clear hSC hSCd
        refine region_heldT 15 SC (by kernel_rfl) (by decide) ?_
        refine HeadW.takeA 0 (v := .agg #[.int .i64 q.mem, .slice q.AD q.data.length q.cD, .slice q.AF q.fs.length q.cF]) rfl (by kernel_rfl) rfl (by decide) (fun _ _ _ hL => seqB_ready hL.1) (by kernel_rfl) (by kernel_rfl) (fun _ _ _ h => h) HSC.out (.inl ⟨by kernel_rfl, by intro w hSw; rw [HSd.out] at hSw; obtain ⟨⟨e0, k0⟩, ⟨e1, k1⟩, ⟨e2, k2⟩, ⟨e3, k3⟩, ⟨e4, k4⟩, ⟨e5, k5⟩, ⟨e6, k6⟩, ⟨e7, k7⟩⟩ := hSw; go_simp⟩) ?_
        simp only [Act.put, List.setIfInBounds_toArray]
        refine HeadW.takeA 1 (v := .agg #[.int .i64 p.mem, .slice p.AD p.data.length p.cD, .slice p.AF p.fs.length p.cF]) rfl (by kernel_rfl) rfl (by decide) (fun _ _ _ hL => seqB_ready hL.1) (by kernel_rfl) (by kernel_rfl) (fun _ _ _ h => h) HSC.out (.inl ⟨by kernel_rfl, by intro w hSw; rw [HSd.out] at hSw; obtain ⟨⟨e0, k0⟩, ⟨e1, k1⟩, ⟨e2, k2⟩, ⟨e3, k3⟩, ⟨e4, k4⟩, ⟨e5, k5⟩, ⟨e6, k6⟩, ⟨e7, k7⟩⟩ := hSw; go_simp⟩) ?_
        simp only [Act.put]
        refine headW_one 2 rfl (by decide) (by kernel_rfl) (by kernel_rfl) fun K hK => ?_
        go_simp
        refine HK.out.mono ?_
        rintro e w6 ⟨rfl, hO6⟩
        have hz6 := hO6.size
        have hSC6 : SC w6 := by
          have h := HSC.out
          rw [HSd.out] at h ⊢
          obtain ⟨⟨e0, k0⟩, ⟨e1, k1⟩, ⟨e2, k2⟩, ⟨e3, k3⟩, ⟨e4, k4⟩, ⟨e5, k5⟩, ⟨e6, k6⟩, ⟨e7, k7⟩⟩ := h
          have hz3 := Hz3.out
          have hbl := Hc.out.1
          exact ⟨⟨(hO6.cell (p := ⟨gq, 0, none⟩) k0 (fun h => by have h1 := h.1; have h2 := h.2; dsimp only at h1 h2; omega)).trans e0, Nat.lt_of_lt_of_le k0 hz6⟩, ⟨(hO6.cell (p := ⟨gq, 1, none⟩) k1 (fun h => by have h1 := h.1; have h2 := h.2; dsimp only at h1 h2; omega)).trans e1, Nat.lt_of_lt_of_le k1 hz6⟩, ⟨(hO6.cell (p := ⟨gq, 2, none⟩) k2 (fun h => by have h1 := h.1; have h2 := h.2; dsimp only at h1 h2; omega)).trans e2, Nat.lt_of_lt_of_le k2 hz6⟩, ⟨(hO6.cell (p := ⟨gx, 0, none⟩) k3 (fun h => by have h1 := h.1; have h2 := h.2; dsimp only at h1 h2; omega)).trans e3, Nat.lt_of_lt_of_le k3 hz6⟩, ⟨(hO6.cell (p := ⟨gx, 1, none⟩) k4 (fun h => by have h1 := h.1; have h2 := h.2; dsimp only at h1 h2; omega)).trans e4, Nat.lt_of_lt_of_le k4 hz6⟩, ⟨(hO6.cell (p := ⟨gx, 2, none⟩) k5 (fun h => by have h1 := h.1; have h2 := h.2; dsimp only at h1 h2; omega)).trans e5, Nat.lt_of_lt_of_le k5 hz6⟩, ⟨(hO6.cell (p := ⟨b, off + j * 2, none⟩) k6 (fun h => by have h1 := h.1; have h2 := h.2; dsimp only at h1 h2; omega)).trans e6, Nat.lt_of_lt_of_le k6 hz6⟩, ⟨(hO6.cell (p := ⟨b, off + j * 2 + 1, none⟩) k7 (fun h => by have h1 := h.1; have h2 := h.2; dsimp only at h1 h2; omega)).trans e7, Nat.lt_of_lt_of_le k7 hz6⟩⟩
        refine hK.out _ _ hSC6 (fun hHeld => ?_)
        clear hK K hHeld
        have HO6 := Lib.hid hO6
        have hb6 : Below wy.heap.size wy w6 := Hby5.out.trans ((Below.refl _ w5).drew.trans (hO6.below (B := wy.heap.size) Hby5.out.size (fun k hk h => by omega)) )
        have Hb6 := Lib.hid hb6
        have HRf := Lib.hid (show Calls Try.prog 24 #[p.val, .agg #[.int .i64 sf, .int .i64 sn]] w6 (fun e w' => ∃ A c, e = .returned (.slice A ln c) ∧ OwnI w' w6.heap.size A ln c (nextL p.plain sf sn) ∧ Below w6.heap.size w6 w') from by rw [Hln.out]; exact refNext_any p sf sn w6 (HPy.out.below hb6))
        have HO5b := Lib.hid (Own.only HO5.out (Only.trans (Only.of_fresh ((Below.refl w5.heap.size w5).drew)) hO6) (fun b o e h => by have h1 := (Own.row HO5.out b (by rw [e]; rfl)).1; have h2 := h.2; have h3 := Hz3.out; simp at h1; omega))
        clear hO6 hz6 hb6 HK
        refine HeadW.takeA 3 (v := .bool false) rfl (by kernel_rfl) rfl (by decide) (fun _ _ _ hL => seqB_ready hL.1) (by kernel_rfl) (by kernel_rfl) (fun _ _ _ h => h) hSC6 (.inl ⟨by kernel_rfl, by intro w hSw; rw [HSd.out] at hSw; obtain ⟨⟨e0, k0⟩, ⟨e1, k1⟩, ⟨e2, k2⟩, ⟨e3, k3⟩, ⟨e4, k4⟩, ⟨e5, k5⟩, ⟨e6, k6⟩, ⟨e7, k7⟩⟩ := hSw; go_simp⟩) ?_
        simp only [Act.put]
        refine HeadW.takeA 4 (v := .bool false) rfl (by kernel_rfl) rfl (by decide) (fun _ _ _ hL => seqB_ready hL.1) (by kernel_rfl) (by kernel_rfl) (fun _ _ _ h => h) hSC6 (.inl ⟨by kernel_rfl, by intro w hSw; rw [HSd.out] at hSw; obtain ⟨⟨e0, k0⟩, ⟨e1, k1⟩, ⟨e2, k2⟩, ⟨e3, k3⟩, ⟨e4, k4⟩, ⟨e5, k5⟩, ⟨e6, k6⟩, ⟨e7, k7⟩⟩ := hSw; go_simp⟩) ?_
        simp only [Act.put]
        refine HeadW.takeA 5 (v := .slice A5 ln c5) rfl (by kernel_rfl) rfl (by decide) (fun _ _ _ hL => seqB_ready hL.1) (by kernel_rfl) (by kernel_rfl) (fun _ _ _ h => h) hSC6 (.inl ⟨by kernel_rfl, by intro w hSw; rw [HSd.out] at hSw; obtain ⟨⟨e0, k0⟩, ⟨e1, k1⟩, ⟨e2, k2⟩, ⟨e3, k3⟩, ⟨e4, k4⟩, ⟨e5, k5⟩, ⟨e6, k6⟩, ⟨e7, k7⟩⟩ := hSw; go_simp⟩) ?_
        simp only [Act.put]
        refine HeadW.takeA 6 (v := .agg #[.int .i64 p.mem, .slice p.AD p.data.length p.cD, .slice p.AF p.fs.length p.cF]) rfl (by kernel_rfl) rfl (by decide) (fun _ _ _ hL => seqB_ready hL.1) (by kernel_rfl) (by kernel_rfl) (fun _ _ _ h => h) hSC6 (.inl ⟨by kernel_rfl, by intro w hSw; rw [HSd.out] at hSw; obtain ⟨⟨e0, k0⟩, ⟨e1, k1⟩, ⟨e2, k2⟩, ⟨e3, k3⟩, ⟨e4, k4⟩, ⟨e5, k5⟩, ⟨e6, k6⟩, ⟨e7, k7⟩⟩ := hSw; go_simp⟩) ?_
        simp only [Act.put]
        refine HeadW.takeA 7 (v := .slice (some ⟨b, off, none⟩) N c) rfl (by kernel_rfl) rfl (by decide) (fun _ _ _ hL => seqB_ready hL.1) (by kernel_rfl) (by kernel_rfl) (fun _ _ _ h => h) hSC6 (.inl ⟨by kernel_rfl, by intro w hSw; rw [HSd.out] at hSw; obtain ⟨⟨e0, k0⟩, ⟨e1, k1⟩, ⟨e2, k2⟩, ⟨e3, k3⟩, ⟨e4, k4⟩, ⟨e5, k5⟩, ⟨e6, k6⟩, ⟨e7, k7⟩⟩ := hSw; go_simp⟩) ?_
        simp only [Act.put]
        refine HeadW.takeA 8 (v := .int .i64 (j : Int)) rfl (by kernel_rfl) rfl (by decide) (fun _ _ _ hL => seqB_ready hL.1) (by kernel_rfl) (by kernel_rfl) (fun _ _ _ h => h) hSC6 (.inl ⟨by kernel_rfl, by intro w hSw; rw [HSd.out] at hSw; obtain ⟨⟨e0, k0⟩, ⟨e1, k1⟩, ⟨e2, k2⟩, ⟨e3, k3⟩, ⟨e4, k4⟩, ⟨e5, k5⟩, ⟨e6, k6⟩, ⟨e7, k7⟩⟩ := hSw; go_simp⟩) ?_
        simp only [Act.put]
        refine HeadW.takeA 9 (v := .pointer (some ⟨b, off + j * 2, none⟩)) rfl (by kernel_rfl) rfl (by decide) (fun _ _ _ hL => seqB_ready hL.1) (by kernel_rfl) (by kernel_rfl) (fun _ _ _ h => h) hSC6 (.inl ⟨by kernel_rfl, by intro w hSw; rw [HSd.out] at hSw; obtain ⟨⟨e0, k0⟩, ⟨e1, k1⟩, ⟨e2, k2⟩, ⟨e3, k3⟩, ⟨e4, k4⟩, ⟨e5, k5⟩, ⟨e6, k6⟩, ⟨e7, k7⟩⟩ := hSw; go_simp⟩) ?_
        simp only [Act.put]
        refine HeadW.takeA 10 (v := .agg #[.int .i64 sf, .int .i64 sn]) rfl (by kernel_rfl) rfl (by decide) (fun _ _ _ hL => seqB_ready hL.1) (by kernel_rfl) (by kernel_rfl) (fun _ _ _ h => h) hSC6 (.inl ⟨by kernel_rfl, by intro w hSw; rw [HSd.out] at hSw; obtain ⟨⟨e0, k0⟩, ⟨e1, k1⟩, ⟨e2, k2⟩, ⟨e3, k3⟩, ⟨e4, k4⟩, ⟨e5, k5⟩, ⟨e6, k6⟩, ⟨e7, k7⟩⟩ := hSw; go_simp⟩) ?_
        simp only [Act.put]
        refine headW_one 11 rfl (by decide) (by kernel_rfl) (by kernel_rfl) fun K hK => ?_
        go_simp
        refine HRf.out.mono ?_
        rintro e w7 ⟨A7, c7, rfl, hO7, hb7⟩
        have hSC7 : SC w7 := by
          have h := hSC6
          rw [HSd.out] at h ⊢
          obtain ⟨⟨e0, k0⟩, ⟨e1, k1⟩, ⟨e2, k2⟩, ⟨e3, k3⟩, ⟨e4, k4⟩, ⟨e5, k5⟩, ⟨e6, k6⟩, ⟨e7, k7⟩⟩ := h
          obtain ⟨hc, -⟩ := bcell hb7
          have hz := hb7.size
          exact ⟨⟨(hc _ _ k0).trans e0, Nat.lt_of_lt_of_le k0 hz⟩, ⟨(hc _ _ k1).trans e1, Nat.lt_of_lt_of_le k1 hz⟩, ⟨(hc _ _ k2).trans e2, Nat.lt_of_lt_of_le k2 hz⟩, ⟨(hc _ _ k3).trans e3, Nat.lt_of_lt_of_le k3 hz⟩, ⟨(hc _ _ k4).trans e4, Nat.lt_of_lt_of_le k4 hz⟩, ⟨(hc _ _ k5).trans e5, Nat.lt_of_lt_of_le k5 hz⟩, ⟨(hc _ _ k6).trans e6, Nat.lt_of_lt_of_le k6 hz⟩, ⟨(hc _ _ k7).trans e7, Nat.lt_of_lt_of_le k7 hz⟩⟩
        refine hK.out _ _ hSC7 (fun hHeld => ?_)
        clear hK K hHeld
        have HSi := Lib.hid (sameInts13_any A5 A7 c5 c7 (nextL p.plain sf sn) (nextL p.plain sf sn) w7 ((RV.of_own HO5b.out).below hb7) (RV.of_own hO7) (by rw [← Hln.out]; exact own_max HO5.out))
        rw [beq_self_eq_true, ← Hln.out] at HSi
        have Hb7 := Lib.hid hb7
        clear hO7 hb7
        refine headW_one 12 rfl (by decide) (by kernel_rfl) (by kernel_rfl) fun K hK => ?_
        go_simp
        refine HSi.out.mono ?_
        rintro e w8 ⟨rfl, hb8⟩
        have hSC8 : SC w8 := by
          have h := hSC7
          rw [HSd.out] at h ⊢
          obtain ⟨⟨e0, k0⟩, ⟨e1, k1⟩, ⟨e2, k2⟩, ⟨e3, k3⟩, ⟨e4, k4⟩, ⟨e5, k5⟩, ⟨e6, k6⟩, ⟨e7, k7⟩⟩ := h
          obtain ⟨hc, -⟩ := bcell hb8
          have hz := hb8.size
          exact ⟨⟨(hc _ _ k0).trans e0, Nat.lt_of_lt_of_le k0 hz⟩, ⟨(hc _ _ k1).trans e1, Nat.lt_of_lt_of_le k1 hz⟩, ⟨(hc _ _ k2).trans e2, Nat.lt_of_lt_of_le k2 hz⟩, ⟨(hc _ _ k3).trans e3, Nat.lt_of_lt_of_le k3 hz⟩, ⟨(hc _ _ k4).trans e4, Nat.lt_of_lt_of_le k4 hz⟩, ⟨(hc _ _ k5).trans e5, Nat.lt_of_lt_of_le k5 hz⟩, ⟨(hc _ _ k6).trans e6, Nat.lt_of_lt_of_le k6 hz⟩, ⟨(hc _ _ k7).trans e7, Nat.lt_of_lt_of_le k7 hz⟩⟩
        refine hK.out _ _ hSC8 (fun hHeld => ?_)
        clear hK K hHeld
        have Hb8 := Lib.hid (show Below wy.heap.size wy w8 from Hb6.out.trans ((Hb7.out.trans (hb8.mono Hb7.out.size)).mono Hb6.out.size))
        clear hb8 HSi HRf HO6
        refine HeadW.takeA 13 (v := .bool false) rfl (by kernel_rfl) rfl (by decide) (fun _ _ _ hL => seqB_ready hL.1) (by kernel_rfl) (by kernel_rfl) (fun _ _ _ h => h) hSC8 (.inl ⟨by kernel_rfl, by intro w hSw; rw [HSd.out] at hSw; obtain ⟨⟨e0, k0⟩, ⟨e1, k1⟩, ⟨e2, k2⟩, ⟨e3, k3⟩, ⟨e4, k4⟩, ⟨e5, k5⟩, ⟨e6, k6⟩, ⟨e7, k7⟩⟩ := hSw; go_simp⟩) ?_
        simp only [Act.put]
        refine HeadW.takeA 14 (v := .bool false) rfl (by kernel_rfl) rfl (by decide) (fun _ _ _ hL => seqB_ready hL.1) (by kernel_rfl) (by kernel_rfl) (fun _ _ _ h => h) hSC8 (.inl ⟨by kernel_rfl, by intro w hSw; rw [HSd.out] at hSw; obtain ⟨⟨e0, k0⟩, ⟨e1, k1⟩, ⟨e2, k2⟩, ⟨e3, k3⟩, ⟨e4, k4⟩, ⟨e5, k5⟩, ⟨e6, k6⟩, ⟨e7, k7⟩⟩ := hSw; go_simp⟩) ?_
        simp only [Act.put]
        simp only [List.getElem_toArray, List.getElem_cons_succ, List.getElem_cons_zero, List.setIfInBounds_toArray, List.set_cons_succ, List.set_cons_zero]
        refine fun hInv => ⟨by kernel_rfl, ?_⟩
        clear hInv
        simp only [List.drop_succ_cons, List.drop_zero]
        clear HSC HSd hSC6 hSC7 hSC8
        clear SC
        clear q0 q1 q2 ql y0 y1 y2 yl s0 s1 hb5
        have hX8 := HXy.out.below Hb8.out HXy.out.lt
        have y0 : w8.cell? ⟨gx, 0, none⟩ = some (.int .i64 p.mem) := hX8.cell 0
        have y1 : w8.cell? ⟨gx, 1, none⟩ = some (.slice p.AD p.data.length p.cD) := hX8.cell 1
        have y2 : w8.cell? ⟨gx, 2, none⟩ = some (.slice p.AF p.fs.length p.cF) := hX8.cell 2
        have yl := hX8.lt
        go_wp2_with fail
        have Hch2 := Lib.hid (takes_same Hch.out sf sn)
        obtain ⟨T, hT⟩ : ∃ T, T = takesL p.plain sf sn := ⟨_, rfl⟩
        have HP8 := Lib.hid (HPy.out.below Hb8.out)
        refine (lend13_any p w8 HP8.out (by omega)).mono ?_
        rintro e w9 ⟨q2, rfl, hpl2, hLt2, hb9⟩
        dsimp only [PrgM.val]
        obtain ⟨gs, hgs⟩ : ∃ g, g = w9.heap.size := ⟨_, rfl⟩
        obtain ⟨w10, hw10⟩ : ∃ w', w' = w9.alloc (.cells #[.int .i64 q2.mem, .slice q2.AD q2.data.length q2.cD, .slice q2.AF q2.fs.length q2.cF] 26) := ⟨_, rfl⟩
        have hb910 : Below w9.heap.size w9 w10 := by rw [hw10]; exact (Below.refl _ _).alloc (Nat.le_refl _) _
        have hQ10 : Blk w10 gs 26 #[.int .i64 q2.mem, .slice q2.AD q2.data.length q2.cD, .slice q2.AF q2.fs.length q2.cF] := by rw [hw10, hgs]; exact Blk.new _ _ _
        have hb810 : Below w8.heap.size w8 w10 := hb9.trans (hb910.mono hb9.size)
        have Hw10 := Lib.hid hw10
        have Hgs := Lib.hid hgs
        have HQ10 := Lib.hid hQ10
        have HLt2 := Lib.hid (hLt2.below hb910)
        have Hpl2 := Lib.hid hpl2
        have Hb10 := Lib.hid (show Below wy.heap.size wy w10 ∧ w8.heap.size ≤ w10.heap.size from ⟨Hb8.out.trans (hb810.mono Hb8.out.size), hb810.size⟩)
        have HP10 := Lib.hid (HPy.out.below Hb10.out.1)
        have hqa2 : PrgAt w10 q2 := by
          have h := HP10.out.ok
          rw [← hpl2] at h
          exact HLt2.out.mine.at_ h
        have HTk := Lib.hid (show Calls Try.prog 19 #[q2.val, .agg #[.int .i64 sf, .int .i64 sn]] w10.drew (TakesPost w10.drew T) from by rw [hT, ← hpl2]; exact takes_any q2 sf sn w10.drew (hqa2.below ((Below.refl _ w10).drew)))
        have HT := Lib.hid hT
        clear hw10 hgs hb910 hb9 hLt2 hpl2 hqa2 hT y0 y1 y2 yl hX8
        go_wp2_with fail
        generalize hw40 : w9.alloc (.cells #[.int .i64 q2.mem, .slice q2.AD q2.data.length q2.cD, .slice q2.AF q2.fs.length q2.cF] 26) = w40
        obtain rfl : w10 = w40 := by rw [← hw40]; exact Hw10.out
        generalize hgq0 : w9.heap.size = gq0
        obtain rfl : gs = gq0 := by rw [← hgq0]; exact Hgs.out
        clear Hw10 Hgs hw40 hgq0
        obtain ⟨hc10, -⟩ := bcell Hb10.out.1
        have q0 : w10.cell? ⟨gs, 0, none⟩ = some (.int .i64 q2.mem) := hQ10.cell 0
        have q1 : w10.cell? ⟨gs, 1, none⟩ = some (.slice q2.AD q2.data.length q2.cD) := hQ10.cell 1
        have q2' : w10.cell? ⟨gs, 2, none⟩ = some (.slice q2.AF q2.fs.length q2.cF) := hQ10.cell 2
        have ql := hQ10.lt
        have s0 : w10.cell? ⟨b, off + j * 2, none⟩ = some (.int .i64 sf) := (hc10 _ _ Hc.out.1).trans Hc.out.2.1
        have s1 : w10.cell? ⟨b, off + j * 2 + 1, none⟩ = some (.int .i64 sn) := (hc10 _ _ Hc.out.1).trans Hc.out.2.2
        have hb10 : b < w10.heap.size := Nat.lt_of_lt_of_le Hc.out.1 Hb10.out.1.size
        clear hQ10 hb810 hc10
        obtain ⟨SC, hSCd⟩ : ∃ S : World → Prop, S = (fun w' => (w'.cell? ⟨gs, 0, none⟩ = some (.int .i64 q2.mem) ∧ gs < w'.heap.size) ∧ (w'.cell? ⟨gs, 1, none⟩ = some (.slice q2.AD q2.data.length q2.cD) ∧ gs < w'.heap.size) ∧ (w'.cell? ⟨gs, 2, none⟩ = some (.slice q2.AF q2.fs.length q2.cF) ∧ gs < w'.heap.size) ∧ (w'.cell? ⟨b, off + j * 2, none⟩ = some (.int .i64 sf) ∧ b < w'.heap.size) ∧ (w'.cell? ⟨b, off + j * 2 + 1, none⟩ = some (.int .i64 sn) ∧ b < w'.heap.size)) := ⟨_, rfl⟩
        have hSC : SC w10.drew := by rw [hSCd]; exact ⟨⟨q0, ql⟩, ⟨q1, ql⟩, ⟨q2', ql⟩, ⟨s0, hb10⟩, ⟨s1, hb10⟩⟩
        have HSC := Lib.hid (show SC w10.drew from hSC)
        have HSd := Lib.hid hSCd
        clear hSC hSCd
        refine region_heldT 11 SC (by kernel_rfl) (by decide) ?_
        refine HeadW.takeA 0 (v := .agg #[.int .i64 q2.mem, .slice q2.AD q2.data.length q2.cD, .slice q2.AF q2.fs.length q2.cF]) rfl (by kernel_rfl) rfl (by decide) (fun _ _ _ hL => seqB_ready hL.1) (by kernel_rfl) (by kernel_rfl) (fun _ _ _ h => h) HSC.out (.inl ⟨by kernel_rfl, by intro w hSw; rw [HSd.out] at hSw; obtain ⟨⟨e0, k0⟩, ⟨e1, k1⟩, ⟨e2, k2⟩, ⟨e3, k3⟩, ⟨e4, k4⟩⟩ := hSw; go_simp⟩) ?_
        simp only [Act.put, List.setIfInBounds_toArray]
        refine HeadW.takeA 1 (v := .slice (some ⟨b, off, none⟩) N c) rfl (by kernel_rfl) rfl (by decide) (fun _ _ _ hL => seqB_ready hL.1) (by kernel_rfl) (by kernel_rfl) (fun _ _ _ h => h) HSC.out (.inl ⟨by kernel_rfl, by intro w hSw; rw [HSd.out] at hSw; obtain ⟨⟨e0, k0⟩, ⟨e1, k1⟩, ⟨e2, k2⟩, ⟨e3, k3⟩, ⟨e4, k4⟩⟩ := hSw; go_simp⟩) ?_
        simp only [Act.put]
        refine HeadW.takeA 2 (v := .int .i64 (j : Int)) rfl (by kernel_rfl) rfl (by decide) (fun _ _ _ hL => seqB_ready hL.1) (by kernel_rfl) (by kernel_rfl) (fun _ _ _ h => h) HSC.out (.inl ⟨by kernel_rfl, by intro w hSw; rw [HSd.out] at hSw; obtain ⟨⟨e0, k0⟩, ⟨e1, k1⟩, ⟨e2, k2⟩, ⟨e3, k3⟩, ⟨e4, k4⟩⟩ := hSw; go_simp⟩) ?_
        simp only [Act.put]
        refine HeadW.takeA 3 (v := .pointer (some ⟨b, off + j * 2, none⟩)) rfl (by kernel_rfl) rfl (by decide) (fun _ _ _ hL => seqB_ready hL.1) (by kernel_rfl) (by kernel_rfl) (fun _ _ _ h => h) HSC.out (.inl ⟨by kernel_rfl, by intro w hSw; rw [HSd.out] at hSw; obtain ⟨⟨e0, k0⟩, ⟨e1, k1⟩, ⟨e2, k2⟩, ⟨e3, k3⟩, ⟨e4, k4⟩⟩ := hSw; go_simp⟩) ?_
        simp only [Act.put]
        refine HeadW.takeA 4 (v := .agg #[.int .i64 sf, .int .i64 sn]) rfl (by kernel_rfl) rfl (by decide) (fun _ _ _ hL => seqB_ready hL.1) (by kernel_rfl) (by kernel_rfl) (fun _ _ _ h => h) HSC.out (.inl ⟨by kernel_rfl, by intro w hSw; rw [HSd.out] at hSw; obtain ⟨⟨e0, k0⟩, ⟨e1, k1⟩, ⟨e2, k2⟩, ⟨e3, k3⟩, ⟨e4, k4⟩⟩ := hSw; go_simp⟩) ?_
        simp only [Act.put]
        refine headW_one 5 rfl (by decide) (by kernel_rfl) (by kernel_rfl) fun K hK => ?_
        go_simp
        refine HTk.out.mono ?_
        rintro e w11 ⟨rfl, hbr⟩
        have hbn : Below w10.heap.size w10 w11 := (Below.refl _ w10).drew.trans hbr
        have hSCn : SC w11 := by
          have h := HSC.out
          rw [HSd.out] at h ⊢
          obtain ⟨⟨e0, k0⟩, ⟨e1, k1⟩, ⟨e2, k2⟩, ⟨e3, k3⟩, ⟨e4, k4⟩⟩ := h
          obtain ⟨hc, -⟩ := bcell hbn
          have hz := hbn.size
          exact ⟨⟨(hc _ _ k0).trans e0, Nat.lt_of_lt_of_le k0 hz⟩, ⟨(hc _ _ k1).trans e1, Nat.lt_of_lt_of_le k1 hz⟩, ⟨(hc _ _ k2).trans e2, Nat.lt_of_lt_of_le k2 hz⟩, ⟨(hc _ _ k3).trans e3, Nat.lt_of_lt_of_le k3 hz⟩, ⟨(hc _ _ k4).trans e4, Nat.lt_of_lt_of_le k4 hz⟩⟩
        refine hK.out _ _ hSCn (fun hHeld => ?_)
        clear hK K hHeld
        have Hbnw11 := Lib.hid hbn
        clear hbr hbn
        refine HeadW.takeA 6 (v := .tuple #[.int .i64 T.1, .int .i64 T.2]) rfl (by kernel_rfl) rfl (by decide) (fun _ _ _ hL => seqB_ready hL.1) (by kernel_rfl) (by kernel_rfl) (fun _ _ _ h => h) hSCn (.inl ⟨by kernel_rfl, by intro w hSw; rw [HSd.out] at hSw; obtain ⟨⟨e0, k0⟩, ⟨e1, k1⟩, ⟨e2, k2⟩, ⟨e3, k3⟩, ⟨e4, k4⟩⟩ := hSw; go_simp⟩) ?_
        simp only [Act.put]
        refine HeadW.takeA 7 (v := .int .i64 T.1) rfl (by kernel_rfl) rfl (by decide) (fun _ _ _ hL => seqB_ready hL.1) (by kernel_rfl) (by kernel_rfl) (fun _ _ _ h => h) hSCn (.inl ⟨by kernel_rfl, by intro w hSw; rw [HSd.out] at hSw; obtain ⟨⟨e0, k0⟩, ⟨e1, k1⟩, ⟨e2, k2⟩, ⟨e3, k3⟩, ⟨e4, k4⟩⟩ := hSw; go_simp⟩) ?_
        simp only [Act.put]
        refine HeadW.takeA 8 (v := .int .i64 T.2) rfl (by kernel_rfl) rfl (by decide) (fun _ _ _ hL => seqB_ready hL.1) (by kernel_rfl) (by kernel_rfl) (fun _ _ _ h => h) hSCn (.inl ⟨by kernel_rfl, by intro w hSw; rw [HSd.out] at hSw; obtain ⟨⟨e0, k0⟩, ⟨e1, k1⟩, ⟨e2, k2⟩, ⟨e3, k3⟩, ⟨e4, k4⟩⟩ := hSw; go_simp⟩) ?_
        simp only [Act.put]
        refine HeadW.takeA 9 (v := .int .i64 T.1) rfl (by kernel_rfl) rfl (by decide) (fun _ _ _ hL => seqB_ready hL.1) (by kernel_rfl) (by kernel_rfl) (fun _ _ _ h => h) hSCn (.inl ⟨by kernel_rfl, by intro w hSw; rw [HSd.out] at hSw; obtain ⟨⟨e0, k0⟩, ⟨e1, k1⟩, ⟨e2, k2⟩, ⟨e3, k3⟩, ⟨e4, k4⟩⟩ := hSw; go_simp⟩) ?_
        simp only [Act.put]
        refine HeadW.takeA 10 (v := .int .i64 T.2) rfl (by kernel_rfl) rfl (by decide) (fun _ _ _ hL => seqB_ready hL.1) (by kernel_rfl) (by kernel_rfl) (fun _ _ _ h => h) hSCn (.inl ⟨by kernel_rfl, by intro w hSw; rw [HSd.out] at hSw; obtain ⟨⟨e0, k0⟩, ⟨e1, k1⟩, ⟨e2, k2⟩, ⟨e3, k3⟩, ⟨e4, k4⟩⟩ := hSw; go_simp⟩) ?_
        simp only [Act.put]
        simp only [List.getElem_toArray, List.getElem_cons_succ, List.getElem_cons_zero, List.setIfInBounds_toArray, List.set_cons_succ, List.set_cons_zero]
        refine fun hInv => ⟨by kernel_rfl, ?_⟩
        clear hInv
        simp only [List.drop_succ_cons, List.drop_zero]
        clear HSC HSd hSCn
        clear SC
        go_wp2_with fail
        clear q0 q1 q2' ql s0 s1 hb10
        have hb11 : Below wy.heap.size wy w11 := Hb10.out.1.trans (Hbnw11.out.mono Hb10.out.1.size)
        have Hb11 := Lib.hid hb11
        have hX11 := HXy.out.below hb11 HXy.out.lt
        obtain ⟨hc11, -⟩ := bcell hb11
        have y0 : w11.cell? ⟨gx, 0, none⟩ = some (.int .i64 p.mem) := hX11.cell 0
        have y1 : w11.cell? ⟨gx, 1, none⟩ = some (.slice p.AD p.data.length p.cD) := hX11.cell 1
        have y2 : w11.cell? ⟨gx, 2, none⟩ = some (.slice p.AF p.fs.length p.cF) := hX11.cell 2
        have yl := hX11.lt
        have s0 : w11.cell? ⟨b, off + j * 2, none⟩ = some (.int .i64 sf) := (hc11 _ _ Hc.out.1).trans Hc.out.2.1
        have s1 : w11.cell? ⟨b, off + j * 2 + 1, none⟩ = some (.int .i64 sn) := (hc11 _ _ Hc.out.1).trans Hc.out.2.2
        have hb11' : b < w11.heap.size := Nat.lt_of_lt_of_le Hc.out.1 hb11.size
        have HTr := Lib.hid (show Calls Try.prog 25 #[p.val, .agg #[.int .i64 sf, .int .i64 sn]] w11.drew (TakesPost w11.drew T) from by rw [HT.out, ← Hch2.out]; exact refTakes_any p sf sn w11.drew (HPy.out.below hb11.drew))
        clear hX11 hc11 hb11
        obtain ⟨SC, hSCd⟩ : ∃ S : World → Prop, S = (fun w' => (w'.cell? ⟨gx, 0, none⟩ = some (.int .i64 p.mem) ∧ gx < w'.heap.size) ∧ (w'.cell? ⟨gx, 1, none⟩ = some (.slice p.AD p.data.length p.cD) ∧ gx < w'.heap.size) ∧ (w'.cell? ⟨gx, 2, none⟩ = some (.slice p.AF p.fs.length p.cF) ∧ gx < w'.heap.size) ∧ (w'.cell? ⟨b, off + j * 2, none⟩ = some (.int .i64 sf) ∧ b < w'.heap.size) ∧ (w'.cell? ⟨b, off + j * 2 + 1, none⟩ = some (.int .i64 sn) ∧ b < w'.heap.size)) := ⟨_, rfl⟩
        have hSC : SC w11.drew := by rw [hSCd]; exact ⟨⟨y0, yl⟩, ⟨y1, yl⟩, ⟨y2, yl⟩, ⟨s0, hb11'⟩, ⟨s1, hb11'⟩⟩
        have HSC := Lib.hid (show SC w11.drew from hSC)
        have HSd := Lib.hid hSCd
        clear hSC hSCd
        refine region_heldT 11 SC (by kernel_rfl) (by decide) ?_
        refine HeadW.takeA 0 (v := .agg #[.int .i64 p.mem, .slice p.AD p.data.length p.cD, .slice p.AF p.fs.length p.cF]) rfl (by kernel_rfl) rfl (by decide) (fun _ _ _ hL => seqB_ready hL.1) (by kernel_rfl) (by kernel_rfl) (fun _ _ _ h => h) HSC.out (.inl ⟨by kernel_rfl, by intro w hSw; rw [HSd.out] at hSw; obtain ⟨⟨e0, k0⟩, ⟨e1, k1⟩, ⟨e2, k2⟩, ⟨e3, k3⟩, ⟨e4, k4⟩⟩ := hSw; go_simp⟩) ?_
        simp only [Act.put, List.setIfInBounds_toArray]
        refine HeadW.takeA 1 (v := .slice (some ⟨b, off, none⟩) N c) rfl (by kernel_rfl) rfl (by decide) (fun _ _ _ hL => seqB_ready hL.1) (by kernel_rfl) (by kernel_rfl) (fun _ _ _ h => h) HSC.out (.inl ⟨by kernel_rfl, by intro w hSw; rw [HSd.out] at hSw; obtain ⟨⟨e0, k0⟩, ⟨e1, k1⟩, ⟨e2, k2⟩, ⟨e3, k3⟩, ⟨e4, k4⟩⟩ := hSw; go_simp⟩) ?_
        simp only [Act.put]
        refine HeadW.takeA 2 (v := .int .i64 (j : Int)) rfl (by kernel_rfl) rfl (by decide) (fun _ _ _ hL => seqB_ready hL.1) (by kernel_rfl) (by kernel_rfl) (fun _ _ _ h => h) HSC.out (.inl ⟨by kernel_rfl, by intro w hSw; rw [HSd.out] at hSw; obtain ⟨⟨e0, k0⟩, ⟨e1, k1⟩, ⟨e2, k2⟩, ⟨e3, k3⟩, ⟨e4, k4⟩⟩ := hSw; go_simp⟩) ?_
        simp only [Act.put]
        refine HeadW.takeA 3 (v := .pointer (some ⟨b, off + j * 2, none⟩)) rfl (by kernel_rfl) rfl (by decide) (fun _ _ _ hL => seqB_ready hL.1) (by kernel_rfl) (by kernel_rfl) (fun _ _ _ h => h) HSC.out (.inl ⟨by kernel_rfl, by intro w hSw; rw [HSd.out] at hSw; obtain ⟨⟨e0, k0⟩, ⟨e1, k1⟩, ⟨e2, k2⟩, ⟨e3, k3⟩, ⟨e4, k4⟩⟩ := hSw; go_simp⟩) ?_
        simp only [Act.put]
        refine HeadW.takeA 4 (v := .agg #[.int .i64 sf, .int .i64 sn]) rfl (by kernel_rfl) rfl (by decide) (fun _ _ _ hL => seqB_ready hL.1) (by kernel_rfl) (by kernel_rfl) (fun _ _ _ h => h) HSC.out (.inl ⟨by kernel_rfl, by intro w hSw; rw [HSd.out] at hSw; obtain ⟨⟨e0, k0⟩, ⟨e1, k1⟩, ⟨e2, k2⟩, ⟨e3, k3⟩, ⟨e4, k4⟩⟩ := hSw; go_simp⟩) ?_
        simp only [Act.put]
        refine headW_one 5 rfl (by decide) (by kernel_rfl) (by kernel_rfl) fun K hK => ?_
        go_simp
        refine HTr.out.mono ?_
        rintro e w12 ⟨rfl, hbr⟩
        have hbn : Below w11.heap.size w11 w12 := (Below.refl _ w11).drew.trans hbr
        have hSCn : SC w12 := by
          have h := HSC.out
          rw [HSd.out] at h ⊢
          obtain ⟨⟨e0, k0⟩, ⟨e1, k1⟩, ⟨e2, k2⟩, ⟨e3, k3⟩, ⟨e4, k4⟩⟩ := h
          obtain ⟨hc, -⟩ := bcell hbn
          have hz := hbn.size
          exact ⟨⟨(hc _ _ k0).trans e0, Nat.lt_of_lt_of_le k0 hz⟩, ⟨(hc _ _ k1).trans e1, Nat.lt_of_lt_of_le k1 hz⟩, ⟨(hc _ _ k2).trans e2, Nat.lt_of_lt_of_le k2 hz⟩, ⟨(hc _ _ k3).trans e3, Nat.lt_of_lt_of_le k3 hz⟩, ⟨(hc _ _ k4).trans e4, Nat.lt_of_lt_of_le k4 hz⟩⟩
        refine hK.out _ _ hSCn (fun hHeld => ?_)
        clear hK K hHeld
        have Hbnw12 := Lib.hid hbn
        clear hbr hbn
        refine HeadW.takeA 6 (v := .tuple #[.int .i64 T.1, .int .i64 T.2]) rfl (by kernel_rfl) rfl (by decide) (fun _ _ _ hL => seqB_ready hL.1) (by kernel_rfl) (by kernel_rfl) (fun _ _ _ h => h) hSCn (.inl ⟨by kernel_rfl, by intro w hSw; rw [HSd.out] at hSw; obtain ⟨⟨e0, k0⟩, ⟨e1, k1⟩, ⟨e2, k2⟩, ⟨e3, k3⟩, ⟨e4, k4⟩⟩ := hSw; go_simp⟩) ?_
        simp only [Act.put]
        refine HeadW.takeA 7 (v := .int .i64 T.1) rfl (by kernel_rfl) rfl (by decide) (fun _ _ _ hL => seqB_ready hL.1) (by kernel_rfl) (by kernel_rfl) (fun _ _ _ h => h) hSCn (.inl ⟨by kernel_rfl, by intro w hSw; rw [HSd.out] at hSw; obtain ⟨⟨e0, k0⟩, ⟨e1, k1⟩, ⟨e2, k2⟩, ⟨e3, k3⟩, ⟨e4, k4⟩⟩ := hSw; go_simp⟩) ?_
        simp only [Act.put]
        refine HeadW.takeA 8 (v := .int .i64 T.2) rfl (by kernel_rfl) rfl (by decide) (fun _ _ _ hL => seqB_ready hL.1) (by kernel_rfl) (by kernel_rfl) (fun _ _ _ h => h) hSCn (.inl ⟨by kernel_rfl, by intro w hSw; rw [HSd.out] at hSw; obtain ⟨⟨e0, k0⟩, ⟨e1, k1⟩, ⟨e2, k2⟩, ⟨e3, k3⟩, ⟨e4, k4⟩⟩ := hSw; go_simp⟩) ?_
        simp only [Act.put]
        refine HeadW.takeA 9 (v := .int .i64 T.1) rfl (by kernel_rfl) rfl (by decide) (fun _ _ _ hL => seqB_ready hL.1) (by kernel_rfl) (by kernel_rfl) (fun _ _ _ h => h) hSCn (.inl ⟨by kernel_rfl, by intro w hSw; rw [HSd.out] at hSw; obtain ⟨⟨e0, k0⟩, ⟨e1, k1⟩, ⟨e2, k2⟩, ⟨e3, k3⟩, ⟨e4, k4⟩⟩ := hSw; go_simp⟩) ?_
        simp only [Act.put]
        refine HeadW.takeA 10 (v := .int .i64 T.2) rfl (by kernel_rfl) rfl (by decide) (fun _ _ _ hL => seqB_ready hL.1) (by kernel_rfl) (by kernel_rfl) (fun _ _ _ h => h) hSCn (.inl ⟨by kernel_rfl, by intro w hSw; rw [HSd.out] at hSw; obtain ⟨⟨e0, k0⟩, ⟨e1, k1⟩, ⟨e2, k2⟩, ⟨e3, k3⟩, ⟨e4, k4⟩⟩ := hSw; go_simp⟩) ?_
        simp only [Act.put]
        simp only [List.getElem_toArray, List.getElem_cons_succ, List.getElem_cons_zero, List.setIfInBounds_toArray, List.set_cons_succ, List.set_cons_zero]
        refine fun hInv => ⟨by kernel_rfl, ?_⟩
        clear hInv
        simp only [List.drop_succ_cons, List.drop_zero]
        clear HSC HSd hSCn
        clear SC
        clear y0 y1 y2 yl s0 s1 hb11'
        have hb12 : Below wy.heap.size wy w12 := Hb11.out.trans (Hbnw12.out.mono Hb11.out.size)
        have Hb12 := Lib.hid hb12
        have hX12 := HXy.out.below hb12 HXy.out.lt
        have y0 : w12.cell? ⟨gx, 0, none⟩ = some (.int .i64 p.mem) := hX12.cell 0
        have y1 : w12.cell? ⟨gx, 1, none⟩ = some (.slice p.AD p.data.length p.cD) := hX12.cell 1
        have y2 : w12.cell? ⟨gx, 2, none⟩ = some (.slice p.AF p.fs.length p.cF) := hX12.cell 2
        have yl := hX12.lt
        have hz1 := Hbnw11.out.size
        have hz2 := Hbnw12.out.size
        have hb1012 : Below w10.heap.size w10 w12 := Hbnw11.out.trans (Hbnw12.out.mono hz1)
        have hQ12 := HQ10.out.below hb1012 HQ10.out.lt
        have q0 : w12.cell? ⟨gs, 0, none⟩ = some (.int .i64 q2.mem) := hQ12.cell 0
        have q1 : w12.cell? ⟨gs, 1, none⟩ = some (.slice q2.AD q2.data.length q2.cD) := hQ12.cell 1
        have q2' : w12.cell? ⟨gs, 2, none⟩ = some (.slice q2.AF q2.fs.length q2.cF) := hQ12.cell 2
        have ql := hQ12.lt
        have HK2 := Lib.hid (kept13_any p q2 w8.heap.size w12 (HPy.out.below hb12) Hpl2.out (HLt2.out.below hb1012) (Nat.le_trans Hb10.out.2 hb1012.size))
        clear hX12 hQ12 hb1012 hb12
        go_wp2_with fail
        refine HK2.out.mono ?_
        rintro e w13 ⟨rfl, hb13⟩
        have Hb13 := Lib.hid (show Below wy.heap.size wy w13 from Hb12.out.trans (hb13.mono Hb8.out.size))
        clear hb13 y0 y1 y2 yl q0 q1 q2' ql
        go_wp2_with fail
        refine ⟨?_, ?measure⟩
        case measure => simp [intOf]; omega
        (repeat apply Exists.intro)
        refine ⟨?rel, rfl⟩
        exact ⟨j + 1, by omega, by first | rfl | go_num, HBy.out.trans (Hb13.out.mono HBy.out.size)⟩
      · go_wp2_with fail
        refine (head13_any _).mono ?_
        rintro e w7 ⟨rfl, hb7⟩
        have HB7 := Lib.hid ((Hb2.out.trans (HBy.out.mono Hb2.out.size)).trans (hb7.mono (Hb2.out.trans (HBy.out.mono Hb2.out.size)).size))
        clear hb7
        go_wp2_with fail
        go_ret
        exact ⟨rfl, HB7.out⟩
  · have hx1 : (x == 0) = false := by simp [hx]
    have hx2 : (x != 0) = true := by simp [hx]
    go_wp2_with fail
    refine (head13_any _).mono ?_
    rintro e wh ⟨rfl, hbh⟩
    have HBh := Lib.hid (Hb2.out.trans (hbh.mono Hb2.out.size))
    clear hbh
    go_wp2_with fail
    go_ret
    exact ⟨rfl, HBh.out⟩
end Go.Proofs.Ytcmpmhlcfalbhaa
