/- chapter 2's Grown of rows of bytes. -/
import Derived.Test.YtmmdkpnoncnjnaaGenL
import Derived.Test.YtmmdkpnoncnjnaaInsJ
import Derived.Test.YtmmdkpnoncnjnaaDecK
namespace Go.Proofs.Ytmmdkpnoncnjnaa
open Go.RowKit

theorem brow_info : (Try.prog.info? 32).map (fun i => (i.zero, i.size, i.bytes)) = some (some (.slice none 0 0), 1, 24) := by kernel_rfl
theorem eBRow : Elem Try.prog 52 32 1 24 := elem_of Try.underlying52 brow_info rfl (by decide)
def mkE (i k : Nat) : Int := bits .xor .u8 (bits .xor .u8 (i : Int) ((i : Int) / 256 * 7)) ((k : Int) % 256 * 3 % 256)
def tlE (i k : Nat) : Int := bits .xor .u8 (255 - (i : Int)) ((k : Int) * 5 % 256)
def mkB (ps : List LG) (t : Nat) : List Value := (List.range (nOf ps t)).map fun (k : Nat) => .int .u8 (mkE t k)
def tlB (t m : Nat) : List Value := (List.range m).map fun (k : Nat) => .int .u8 (tlE t k)
theorem mkB_len (ps : List LG) (t : Nat) : (mkB ps t).length = nOf ps t * 1 := by unfold mkB; rw [List.length_map, List.length_range, Nat.mul_one]
theorem mkB_get (ps : List LG) (t k : Nat) (hk : k < nOf ps t) : (mkB ps t)[k]? = some (.int .u8 (mkE t k)) := by
  unfold mkB; rw [List.getElem?_map, List.getElem?_range hk]; rfl
theorem tlB_get (t m k : Nat) (hk : k < m) : (tlB t m)[k]? = some (.int .u8 (tlE t k)) := by
  unfold tlB; rw [List.getElem?_map, List.getElem?_range hk]; rfl
theorem tlB_next (t m : Nat) : tlB t m ++ [.int .u8 (tlE t m)] = tlB t (m + 1) := by
  unfold tlB
  rw [List.range_succ, List.map_append]
  rfl
set_option maxRecDepth 100000 in
set_option maxHeartbeats 4000000 in
theorem grownB_any (L : Option Addr) (cL base : Nat) (ps : List LG) (vs : Nat → List Value) (w : World) (h : ListsG w base 5 1 L ps vs) (hnil : L = none → ps.length = 0 ∧ cL = 0) (hbase : base ≤ w.heap.size) :
    Calls Try.prog 27 #[.slice L ps.length cL] w fun e w' => e = .returned (.bool true) ∧ Only (fun b => ∃ p ∈ ps, p.A.map (·.block) = some b) w w' := by
  have H := Lib.hid h
  obtain ⟨N, hN⟩ : ∃ N, N = ps.length := ⟨_, rfl⟩
  have hN64 : N ≤ 64 := by have := h.many; omega
  rw [← hN]
  have HN := Lib.hid hN
  have hlen : ∀ t p, ps[t]? = some p → (mkB ps t).length = (vs t).length := fun t p hp => by rw [mkB_len, nOf_eq hp, (h.own t p hp).1]
  have Hlen := Lib.hid hlen
  have hF0 : FullG w base 5 1 ps (mkB ps) vs 0 0 := ⟨fun t p hp => by
    rw [if_neg (Nat.not_lt_zero _)]
    split
    · exact h.own t p hp
    · exact h.own t p hp⟩
  have HF0 := Lib.hid hF0
  have hlt : ∀ p ∈ ps, ∀ b, p.A.map (·.block) = some b → base ≤ b ∧ b < w.heap.size := fun p hp b e => by
    obtain ⟨t, ht⟩ := List.mem_iff_getElem?.1 hp
    exact Own.row (h.own t p ht) b e
  have Hlt := Lib.hid hlt
  have Hnil := Lib.hid hnil
  have Hform := Lib.hid (show ∀ p ∈ ps, ∀ b, p.A.map (·.block) = some b → p.A = some ⟨b, 0, none⟩ from fun p hp b e => by
    obtain ⟨t, ht⟩ := List.mem_iff_getElem?.1 hp
    exact (ownG_form (h.own t p ht) b e).1)
  clear hnil h hN hlen hF0 hlt
  go_enter Try.func27, Try.ntmps27
  go_wp2_with fail
  go_loopw [3] (fun v wr => ∃ k : Nat, k ≤ N ∧ v = .int .i64 k ∧ FullG wr base 5 1 ps (mkB ps) vs k 0 ∧ Only (fun b => ∃ p ∈ ps, p.A.map (·.block) = some b) w wr) (fun v _ => N - (intOf v).toNat)
  case atStart => exact ⟨0, Nat.zero_le _, rfl, HF0.out, Only.refl _ _⟩
  case round =>
    rename World => w1
    obtain ⟨k, hk, rfl, hF, hO⟩ := hrel
    have hL1 : RV w1 L (ps.map LG.val) := (H.out.rv).only hO fun _ b o e ⟨p, hp, e2⟩ => H.out.far p hp b o e e2
    by_cases hlt : k < N
    · have g1 : (k : Int) < (N : Int) := by omega
      have hkl : k < ps.length := by have := HN.out; omega
      obtain ⟨p, hp⟩ : ∃ p, ps[k]? = some p := ⟨_, List.getElem?_eq_getElem hkl⟩
      obtain ⟨bL, oL, rfl, hbL, hcL⟩ := hL1.at_ (by rw [List.length_map]; omega)
      have hh := hcL k _ (vals_get hp)
      have hpn : p.n ≤ 2000000 := H.out.small p (List.mem_of_getElem? hp)
      have Hp := Lib.hid hp
      have hF2 : FullG w1 base 5 1 ps (mkB ps) vs k 0 := hF
      have HF := Lib.hid hF2
      have HO := Lib.hid hO
      obtain ⟨pA, pn, pc⟩ := p
      clear hp hF hF2 hO hL1 hcL
      dsimp only [LG.val] at hh hpn
      go_wp2_with fail
      clear hh
      go_loopw [4] (fun v wr => ∃ j : Nat, j ≤ pn ∧ v = .int .i64 j ∧ FullG wr base 5 1 ps (mkB ps) vs k j ∧ Only (fun b => ∃ p ∈ ps, p.A.map (·.block) = some b) w wr) (fun v _ => pn - (intOf v).toNat)
      case atStart => exact ⟨0, Nat.zero_le _, rfl, HF.out, HO.out⟩
      case round =>
        rename World => w2
        obtain ⟨j, hj, rfl, hF, hO⟩ := hrel
        have hL2 : RV w2 (some ⟨bL, oL, none⟩) (ps.map LG.val) := (H.out.rv).only hO fun _ b o e ⟨p, hp, e2⟩ => H.out.far p hp b o e e2
        obtain ⟨bL', oL', e, hbL2, hcL⟩ := hL2.at_ (by rw [List.length_map]; omega)
        injection e with e
        injection e with e1 e2
        subst e1 e2
        have hh := hcL k _ (vals_get Hp.out)
        dsimp only [LG.val] at hh
        clear hL2 hcL
        by_cases hjn : j < pn
        · have g2 : (j : Int) < (pn : Int) := by omega
          have ho := hF.own k _ Hp.out
          rw [if_neg (Nat.lt_irrefl _), if_pos rfl] at ho
          obtain ⟨g, hA, hg1, hg2⟩ := ownG_some ho (by dsimp only; omega)
          dsimp only at hA
          subst hA
          have hl := Hlen.out k _ Hp.out
          have hml := mkB_len ps k
          rw [nOf_eq Hp.out] at hml
          dsimp only at hml
          have hfl := fillC_len (mkB ps k) (vs k) j hl (by omega)
          obtain ⟨c0, f0, -⟩ := ownG_at ho j (by omega)
          generalize (fillC (mkB ps k) (vs k) j)[j] = z0 at *
          have m0 := mkB_get ps k j (by rw [nOf_eq Hp.out]; exact hjn)
          have hF1 := hF.put H.out.sole Hp.out g rfl hl _ m0
          unfold mkE at hF1
          have HF1 := Lib.hid hF1
          have HO2 := fun u => hO.setCell (p := ⟨g, j, none⟩) (.inl ⟨_, List.mem_of_getElem? Hp.out, rfl⟩) u
          have HO2 := Lib.hid HO2
          clear ho hl hml hfl m0 hF1 hF hO
          go_wp2_with fail
          exact ⟨⟨j + 1, by omega, by go_num, HF1.out, HO2.out _⟩, by simp [intOf]; omega⟩
        · obtain rfl : j = pn := by omega
          have hvl := (H.out.own k _ Hp.out).1
          dsimp only at hvl
          rw [Nat.mul_one] at hvl
          rw [← hvl] at hF
          have HFn := Lib.hid (hF.next (Hlen.out k _ Hp.out))
          have HO2 := Lib.hid hO
          clear hF hO hvl
          go_wp2_with fail
          exact ⟨⟨k + 1, by omega, by go_num, HFn.out, HO2.out⟩, by simp [intOf]; omega⟩
    · obtain rfl : k = N := by omega
      have hall : ∀ t p, ps[t]? = some p → Own w1 base 5 1 p.A p.n p.c (mkB ps t) := fun t p hp => by
        have h1 := hF.own t p hp
        rw [if_pos (by have := (List.getElem?_eq_some_iff.1 hp).1; have := HN.out; omega)] at h1
        exact h1
      have Hall := Lib.hid hall
      have HO := Lib.hid hO
      have hz01 := hO.size
      have HL1 := Lib.hid hL1
      clear hall hF hO hL1
      go_wp2_with (refine wpList_at 46 rfl ?_; refine wp_stop ?_)
      try refine ⟨?_⟩
      refine wpList_app rfl (.tmp 44) (.tmp 45) eBRow rfl rfl (Own.nil _ w1.heap.size _ _) (m := k) (c' := cL) (us := ps.map LG.val) rfl HL1.out (by rw [List.length_map, HN.out, Nat.mul_one]) (vals_one ps) (by unfold maxLen; omega) (by omega) (Nat.le_refl _) ?_ ?_
      · intro e; have h1 := Hnil.out e; rw [← HN.out] at h1; exact h1
      intro AM cM w2 hown2 hg2 hA2
      rw [Nat.zero_add, List.nil_append] at hown2
      have hb12 : Below w1.heap.size w1 w2 := (Below.refl w1.heap.size w1).grown hg2 (Nat.le_refl _) fun q hq => by cases hq
      have hz12 := hb12.size
      have hall2 : ∀ t p, ps[t]? = some p → Own w2 base 5 1 p.A p.n p.c (mkB ps t) := fun t p hp => Own.below (Hall.out t p hp) hb12 (Nat.le_refl _)
      have HM0 := Lib.hid (MoreG.start (tl := tlB) hall2 H.out.sole (by rw [← HN.out]; exact hown2) (fun t => rfl))
      have HL2 := Lib.hid (HL1.out.below hb12)
      have hfar : ∀ p ∈ ps, ∀ b, p.A.map (·.block) = some b → b < w2.heap.size ∧ AM.map (·.block) ≠ some b := fun p hp b e => by
        have h1 := Hlt.out p hp b e
        have h2 := HO.out.size
        refine ⟨by omega, fun e2 => ?_⟩
        have := (Own.row hown2 b e2).1
        omega
      have Hfar := Lib.hid hfar
      have HO2 := Lib.hid (HO.out.trans (Only.of_fresh (S := fun b => ∃ p ∈ ps, p.A.map (·.block) = some b) hb12))
      have Hrow2 := Lib.hid hown2
      clear hown2 hg2 hA2 hb12 hall2 hfar Hall HO HL1
      simp only [Nat.zero_add]
      go_wp2_with fail
      go_loopw [6] (fun v wr => ∃ (kk : Nat) (GA : Nat → Option Addr) (GC : Nat → Nat), kk ≤ 96 ∧ v = .int .i64 kk ∧ MoreG w2 wr w2.heap.size base 5 32 1 ps (mkB ps) tlB (fun _ => kk) GA GC AM cM) (fun v _ => 96 - (intOf v).toNat)
      case atStart => exact ⟨0, _, _, Nat.zero_le _, rfl, HM0.out⟩
      case round =>
        rename World => w3
        obtain ⟨kk, GA, GC, hkk, rfl, hM⟩ := hrel
        by_cases hk96 : kk < 96
        · have g3 : (kk : Int) < 96 := by omega
          have HM := Lib.hid (hM.congr (m' := fun t => if t < 0 then kk + 1 else kk) fun t _ => by rw [if_neg (Nat.not_lt_zero _)])
          clear hM HM0
          go_wp2_with fail
          go_loopw [7] (fun v wr => ∃ (i : Nat) (GA : Nat → Option Addr) (GC : Nat → Nat), i ≤ k ∧ v = .int .i64 i ∧ MoreG w2 wr w2.heap.size base 5 32 1 ps (mkB ps) tlB (fun t => if t < i then kk + 1 else kk) GA GC AM cM) (fun v _ => k - (intOf v).toNat)
          case atStart => exact ⟨0, GA, GC, Nat.zero_le _, rfl, HM.out⟩
          case round =>
            rename World => w4
            clear HM GA GC
            obtain ⟨i, GA, GC, hi, rfl, hM⟩ := hrel
            by_cases hik : i < k
            · have g4 : (i : Int) < (k : Int) := by omega
              have hil : i < ps.length := by have := HN.out; omega
              obtain ⟨p, hp⟩ : ∃ p, ps[i]? = some p := ⟨_, List.getElem?_eq_getElem hil⟩
              obtain ⟨gM, hAM, -, -⟩ := ownG_some hM.row (by omega)
              subst hAM
              have hpn : p.n ≤ 2000000 := H.out.small p (List.mem_of_getElem? hp)
              obtain ⟨r0, rf0, rl0⟩ := rowG_at hM.row hp
              obtain ⟨hoi, -, -⟩ := hM.done i p hp
              rw [if_neg (Nat.lt_irrefl _)] at hoi r0
              obtain ⟨w5, hw5⟩ : ∃ w5, w5 = w4.alloc (.cells #[.int .u8 (tlE i kk)] 5) := ⟨_, rfl⟩
              have hb45 : Below w4.heap.size w4 w5 := by rw [hw5]; exact (Below.refl _ _).alloc (Nat.le_refl _) _
              have hU5 : Blk w5 w4.heap.size 5 #[.int .u8 (tlE i kk)] := by rw [hw5]; exact Blk.new _ _ _
              have Hoi5 := Lib.hid (Own.below hoi hb45 (Nat.le_refl _))
              have HM := Lib.hid hM
              have Hp := Lib.hid hp
              have Hb45 := Lib.hid hb45
              have HU5 := Lib.hid hU5
              have Hw5 := Lib.hid hw5
              have hbs : base ≤ w5.heap.size := by have h2 := HO2.out.size; have h3 := hM.size; have := hb45.size; omega
              unfold tlE at Hw5
              clear hM hp hoi hb45 hU5 hw5
              go_wp2_with (refine wpList_at 71 rfl ?_; refine wp_stop ?_)
              try refine ⟨?_⟩
              rw [← Hw5.out]
              refine wpList_app2 rfl (.tmp 62) (.tmp 70) eByte rfl rfl Hoi5.out (m := 1) (c' := 1) (us := [.int .u8 (tlE i kk)]) rfl (RV.of_blk HU5.out) rfl (by intro v hv; simp only [List.mem_cons, List.not_mem_nil, or_false] at hv; subst hv; rfl) (by decide) (by unfold maxLen; omega) (by omega) hbs ?_
              intro A6 c6 w6 hown6 hA6
              have hrow6 := HM.out.row3 Hp.out (by decide) Hb45.out hA6
              obtain ⟨s0, sf0, sl0⟩ := rowG_at hrow6 Hp.out
              obtain ⟨w7, hw7⟩ : ∃ w7, w7 = w6.setCell ⟨gM, i, none⟩ (.slice A6 (p.n + kk + 1) c6) := ⟨_, rfl⟩
              have hlt2 : ∀ p ∈ ps, ∀ b, p.A.map (·.block) = some b → b < w2.heap.size ∧ b ≠ gM := fun p hp b e => ⟨(Hfar.out p hp b e).1, fun e2 => (Hfar.out p hp b e).2 (by rw [e2]; rfl)⟩
              have hMn := HM.out.step (w4 := w7) (us := [.int .u8 (tlE i kk)]) (c2 := c6) Hp.out (by decide) hlt2 (Nat.le_refl _) Hform.out H.out.sole (by rw [if_neg (Nat.lt_irrefl _)]; exact tlB_next i kk) Hb45.out (by rw [if_neg (Nat.lt_irrefl _)]; exact hown6) hA6 (by rw [if_neg (Nat.lt_irrefl _)]; exact hw7)
              have HMn := Lib.hid (hMn.congr (m' := fun t => if t < i + 1 then kk + 1 else kk) fun t _ => by
                by_cases h1 : t = i
                · subst h1; simp
                · by_cases h2 : t < i
                  · simp [h1, h2]; omega
                  · simp [h1, h2]; omega)
              have Hw7 := Lib.hid hw7
              clear hown6 hA6 hrow6 hMn hlt2 hw7 HM HU5 Hb45 Hoi5 Hw5 r0 rf0
              go_wp2_with fail
              rw [show p.n + kk + 1 = p.n + kk + 1 from rfl]
              exact ⟨⟨i + 1, _, _, by omega, by go_num, by rw [← Hw7.out]; exact HMn.out⟩, by simp [intOf]; omega⟩
            · obtain rfl : i = k := by omega
              have HMn := Lib.hid (hM.congr (m' := fun _ => kk + 1) fun t ht => by rw [if_pos (by have := HN.out; omega)])
              clear hM
              go_wp2_with fail
              exact ⟨⟨kk + 1, _, _, by omega, by go_num, HMn.out⟩, by simp [intOf]; omega⟩
        · obtain rfl : kk = 96 := by omega
          have HM := Lib.hid hM
          clear hM HM0
          go_wp2_with fail
          go_loopw [8] (fun v wr => ∃ i : Nat, i ≤ k ∧ v = .int .i64 i ∧ Below w3.heap.size w3 wr) (fun v _ => k - (intOf v).toNat)
          case atStart => exact ⟨0, Nat.zero_le _, rfl, Below.refl _ _⟩
          case round =>
            rename World => w4
            obtain ⟨i, hi, rfl, hB⟩ := hrel
            by_cases hik : i < k
            · have g4 : (i : Int) < (k : Int) := by omega
              have hil : i < ps.length := by have := HN.out; omega
              obtain ⟨p, hp⟩ : ∃ p, ps[i]? = some p := ⟨_, List.getElem?_eq_getElem hil⟩
              obtain ⟨gM, hAM, -, -⟩ := ownG_some HM.out.row (by omega)
              subst hAM
              have hpn : p.n ≤ 2000000 := H.out.small p (List.mem_of_getElem? hp)
              have HL3 := Lib.hid (HL2.out.only HM.out.only fun _ b o e e2 => by
                rcases e2 with e2 | ⟨p, hp, e2⟩
                · obtain ⟨b', o', e', h1, -⟩ := HL2.out.at_ (by rw [List.length_map]; omega)
                  rw [e] at e'
                  injection e' with e'
                  injection e' with e3 e4
                  obtain ⟨b2, o2, e5, h2, -⟩ := H.out.rv.at_ (by rw [List.length_map]; omega)
                  rw [e] at e5
                  injection e5 with e5
                  injection e5 with e6 e7
                  have := (Own.row Hrow2.out b e2).1
                  omega
                · exact H.out.far p hp b o e e2)
              obtain ⟨bL, oL, hL, hbL, hcL⟩ := HL3.out.at_ (by rw [List.length_map]; omega)
              subst hL
              have hh := hcL i _ (vals_get hp)
              obtain ⟨r0, rf0, rl0⟩ := rowG_at HM.out.row hp
              obtain ⟨hoi, hri, -⟩ := HM.out.done i p hp
              obtain ⟨gA, hgA, -, hgA2⟩ := ownG_some hoi (by omega)
              rw [hgA] at hoi r0
              have Hoi := Lib.hid hoi
              have Hri := Lib.hid hri
              have Hp := Lib.hid hp
              have HB := Lib.hid hB
              obtain ⟨e1, -⟩ := bcell hB
              have hh4 : w4.cell? ⟨bL, oL + i, none⟩ = some p.val := by rw [e1 _ _ hbL]; exact hh
              have Hh3 := Lib.hid hh
              have Hr3 := Lib.hid r0
              have hz4 := hB.size
              obtain ⟨pA, pn, pc⟩ := p
              dsimp only [LG.val] at hh4 hpn
              try dsimp only at Hr3
              try dsimp only at Hoi
              try dsimp only at Hri
              clear hoi hri hp hB e1 hh r0 rf0 hcL hgA
              have hlL : bL < w4.heap.size := by omega
              have hlM : gM < w4.heap.size := by omega
              go_wp2_with fail
              go_loopw [10] (fun v wr => ∃ j : Nat, j ≤ pn + 96 ∧ v = .int .i64 j ∧ Below w3.heap.size w3 wr) (fun v _ => pn + 96 - (intOf v).toNat)
              case atStart => exact ⟨0, Nat.zero_le _, rfl, HB.out⟩
              case round =>
                rename World => w5
                obtain ⟨j, hj, rfl, hB⟩ := hrel
                obtain ⟨e1, -⟩ := bcell hB
                have hz5 := hB.size
                have hh5 : w5.cell? ⟨bL, oL + i, none⟩ = some (.slice pA pn pc) := by rw [e1 _ _ hbL]; exact Hh3.out
                have r5 : w5.cell? ⟨gM, i, none⟩ = some (.slice (some ⟨gA, 0, none⟩) (pn + 96) (GC i)) := by rw [e1 _ _ rl0]; exact Hr3.out
                have Hoi5 := Own.below Hoi.out hB (Nat.le_refl _)
                have Hri5 := Hri.out.below hB
                have hlL5 : bL < w5.heap.size := by omega
                have hlM5 : gM < w5.heap.size := by omega
                have hgA5 : gA < w5.heap.size := by omega
                have HB5 := Lib.hid hB
                have hmkl : (mkB ps i).length = pn * 1 := by rw [mkB_len, nOf_eq Hp.out]
                by_cases hj1 : j < pn
                · have g5 : (j : Int) < (pn : Int) := by omega
                  have g6 : (j : Int) < (pn : Int) + 96 := by omega
                  have m0 := mkB_get ps i j (by rw [nOf_eq Hp.out]; exact hj1)
                  have x0 : w5.cell? ⟨gA, j, none⟩ = some (.int .u8 (mkE i j)) := by
                    have h1 : (mkB ps i ++ tlB i 96)[j]? = some (.int .u8 (mkE i j)) := by rw [List.getElem?_append_left (by omega)]; exact m0
                    obtain ⟨h2, h3⟩ := List.getElem?_eq_some_iff.1 h1
                    have h4 := (ownG_at Hoi5 j h2).1
                    rw [h3] at h4
                    exact h4
                  obtain ⟨bp, op, hpA, hbp, hcp⟩ := Hri5.at_ (by rw [hmkl]; omega)
                  have y0 := hcp _ _ m0
                  rw [hpA] at hh5
                  unfold mkE at x0 y0
                  clear hcp m0 Hoi5 Hri5 e1 hB hmkl
                  go_wp2_with fail
                  exact ⟨⟨j + 1, by omega, by go_num, HB5.out⟩, by simp [intOf]; omega⟩
                by_cases hj2 : j < pn + 96
                · obtain ⟨q, hq⟩ : ∃ q, j = pn + q := ⟨j - pn, by omega⟩
                  have g5 : ¬ (j : Int) < (pn : Int) := by omega
                  have g7 : (pn : Int) ≤ (j : Int) := by omega
                  have g6 : (j : Int) < (pn : Int) + 96 := by omega
                  have m0 := tlB_get i 96 q (by omega)
                  have x0 : w5.cell? ⟨gA, j, none⟩ = some (.int .u8 (tlE i q)) := by
                    have h1 : (mkB ps i ++ tlB i 96)[j]? = some (.int .u8 (tlE i q)) := by rw [List.getElem?_append_right (by omega), hmkl, show j - pn * 1 = q from by omega]; exact m0
                    obtain ⟨h2, h3⟩ := List.getElem?_eq_some_iff.1 h1
                    have h4 := (ownG_at Hoi5 j h2).1
                    rw [h3] at h4
                    exact h4
                  have hq2 : (q : Int) = (j : Int) - (pn : Int) := by omega
                  unfold tlE at x0
                  rw [hq2] at x0
                  clear m0 Hoi5 Hri5 e1 hB hmkl hq hq2
                  go_wp2_with fail
                  exact ⟨⟨j + 1, by omega, by go_num, HB5.out⟩, by simp [intOf]; omega⟩
                · obtain rfl : j = pn + 96 := by omega
                  clear Hoi5 Hri5 e1 hmkl
                  go_wp2_with fail
                  exact ⟨⟨i + 1, by omega, by go_num, hB⟩, by simp [intOf]; omega⟩
            · have HF := Lib.hid ((HO2.out.more HM.out.only fun b hb e => by
                rcases e with e | e
                · have := (Own.row Hrow2.out b e).1; omega
                · exact e).trans (Only.of_fresh (S := fun b => ∃ p ∈ ps, p.A.map (·.block) = some b) hB))
              clear hB
              go_wp2_with fail
              go_ret
              exact ⟨rfl, HF.out⟩
end Go.Proofs.Ytmmdkpnoncnjnaa
