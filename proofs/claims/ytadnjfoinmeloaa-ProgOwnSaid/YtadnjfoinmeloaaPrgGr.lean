/- The law's grown of programs. -/
import Derived.Test.YtadnjfoinmeloaaPrgG2
namespace Go.Proofs.Ytadnjfoinmeloaa
open Go.RowKit

set_option maxRecDepth 100000 in
set_option maxHeartbeats 8000000 in
theorem grownP_any (L : Option Addr) (cL B : Nat) (l : List PrgM) (w : World) (h : GrH w B l L cL) :
    Calls Try.prog 29 #[.slice L l.length cL] w fun e w' => e = .returned (.bool true) ∧ Only (SpG l) w w' := by
  have H := Lib.hid h
  obtain ⟨N, hN⟩ : ∃ N, N = l.length := ⟨_, rfl⟩
  have hN9 : N ≤ 9 := by have := h.many; omega
  rw [← hN]
  have HN := Lib.hid hN
  have HF0 := Lib.hid (FullG.first (mk := mkB (dataLs l)) h.ownD)
  have HML := Lib.hid (show (codeLs l).length ≤ 54 from by have h1 := codeFs_len l; have h2 := codeLs_len l; have := h.many; omega)
  clear h hN
  go_enter Try.func29, Try.ntmps29
  go_wp2_with fail
  go_loopw [3, 4] (fun v i wr => ∃ k : Nat, k ≤ N ∧ i = .int .i64 k ∧ RowV wr w.heap.size 48 (codeLs (l.take k)) v ∧ FullG wr B 5 1 (dataLs l) (mkB (dataLs l)) (vD l) k 0 ∧ Only (SpD l) w wr) (fun _ i _ => N - (intOf i).toNat)
  case atStart => exact ⟨0, Nat.zero_le _, rfl, RowV.nil _ _ _, HF0.out, Only.refl _ _⟩
  case round =>
    rename World => w1
    obtain ⟨k, hk, rfl, ⟨AC, nC, cC, rfl, hnC, hC⟩, hF, hO⟩ := hrel
    by_cases hlt : k < N
    · have g1 : (k : Int) < (N : Int) := by omega
      have hkl : k < l.length := by have := HN.out; omega
      obtain ⟨p, hp⟩ : ∃ p, l[k]? = some p := ⟨_, List.getElem?_eq_getElem hkl⟩
      obtain ⟨gL, hL, hgL⟩ := H.out.at_ (by omega)
      subst hL
      obtain ⟨hgL1, hh1, hh2⟩ := H.out.prg (SpD.g hO) k p hp gL rfl
      have Hp := Lib.hid hp
      have HF := Lib.hid hF
      have HO := Lib.hid hO
      have HC := Lib.hid hC
      have HnC := Lib.hid hnC
      have hsm := H.out.small p (List.mem_of_getElem? hp)
      obtain ⟨nd, hnd⟩ : ∃ n, n = p.data.length := ⟨_, rfl⟩
      obtain ⟨nf, hnf⟩ : ∃ n, n = p.fs.length := ⟨_, rfl⟩
      rw [← hnd] at hh1
      rw [← hnf] at hh2
      have hnd2 : nd ≤ 2000000 := by omega
      have hnf2 : nf ≤ 64 := by omega
      have Hsm := Lib.hid hsm.2.2
      have Hnd := Lib.hid hnd
      have Hnf := Lib.hid hnf
      clear hp hF hO hC hnC hsm hnd hnf hkl HF0
      go_wp2_with fail
      clear hh1 hh2
      go_loopw [5] (fun v wr => ∃ j : Nat, j ≤ nd ∧ v = .int .i64 j ∧ FullG wr B 5 1 (dataLs l) (mkB (dataLs l)) (vD l) k j ∧ Only (SpD l) w wr ∧ Own wr w.heap.size 48 1 AC nC cC ((codeLs (l.take k)).map LG.val)) (fun v _ => nd - (intOf v).toNat)
      case atStart => exact ⟨0, Nat.zero_le _, rfl, HF.out, HO.out, HC.out⟩
      case round =>
        rename World => w2
        obtain ⟨j, hj, rfl, hF, hO, hC⟩ := hrel
        obtain ⟨hgL2, hh1, hh2⟩ := H.out.prg (SpD.g hO) k p Hp.out gL rfl
        rw [← Hnd.out] at hh1
        rw [← Hnf.out] at hh2
        have hz2 := hO.size
        by_cases hjn : j < nd
        · have g2 : (j : Int) < (nd : Int) := by omega
          have hq := dataLs_get Hp.out
          have ho := hF.own k _ hq
          rw [if_neg (Nat.lt_irrefl _), if_pos rfl] at ho
          dsimp only at ho
          rw [← Hnd.out] at ho
          obtain ⟨g, hA, hg1, hg2⟩ := ownG_some ho (by omega)
          rw [hA] at hh1 ho
          have hl := mkB_fit H.out k _ hq
          have hml := mkB_len (dataLs l) k
          rw [nOf_eq hq] at hml
          dsimp only at hml
          rw [← Hnd.out] at hml
          have hfl := fillC_len (mkB (dataLs l) k) (vD l k) j hl (by omega)
          obtain ⟨c0, f0, -⟩ := ownG_at ho j (by omega)
          generalize (fillC (mkB (dataLs l) k) (vD l k) j)[j] = z0 at *
          have m0 := mkB_get (dataLs l) k j (by rw [nOf_eq hq]; have := Hnd.out; dsimp only; omega)
          have hF1 := hF.put H.out.soleD hq g hA hl _ m0
          unfold mkE at hF1
          have HF1 := Lib.hid hF1
          have HO2 := Lib.hid fun u => hO.setCell (p := ⟨g, j, none⟩) (.inl ⟨_, List.mem_of_getElem? hq, by dsimp only; rw [hA]; rfl⟩) u
          have HC2 := Lib.hid fun u => Own.only hC ((Only.refl (fun b => b = g) w2).setCell (p := ⟨g, j, none⟩) (.inl rfl) u) fun b o e e2 => ownG_ne hC ho (by decide) b (by rw [e]; rfl) (by rw [e2]; rfl)
          clear ho hl hml hfl m0 hF1 hF hO hC hq hA
          go_wp2_with fail
          exact ⟨⟨j + 1, by omega, by go_num, HF1.out, HO2.out _, HC2.out _⟩, by simp [intOf]; omega⟩
        · obtain rfl : j = nd := by omega
          have hvl := (H.out.ownD k _ (dataLs_get Hp.out)).1
          dsimp only at hvl
          rw [Nat.mul_one, ← Hnd.out] at hvl
          rw [← hvl] at hF
          have HFn := Lib.hid (hF.next (mkB_fit H.out k _ (dataLs_get Hp.out)))
          have HO2 := Lib.hid hO
          have HC2 := Lib.hid hC
          clear hF hO hvl hC HF HO HC
          go_wp2_with fail
          clear hh1 hh2
          go_loopw [3, 6] (fun v i wr => ∃ j : Nat, j ≤ 6 ∧ j ≤ nf ∧ i = .int .i64 j ∧ RowV wr w.heap.size 48 (codeLs (l.take k) ++ (p.fs.take j).map lgF) v ∧ FullG wr B 5 1 (dataLs l) (mkB (dataLs l)) (vD l) (k + 1) 0 ∧ Only (SpD l) w wr) (fun _ i _ => 6 - (intOf i).toNat)
          case atStart => exact ⟨0, Nat.zero_le _, Nat.zero_le _, rfl, ⟨AC, nC, cC, rfl, by rw [HnC.out]; simp, by simpa using HC2.out⟩, HFn.out, HO2.out⟩
          case round =>
            rename World => w3
            clear HFn HO2 HC2 HnC
            obtain ⟨j, hj6, hjf, rfl, ⟨AC, nC, cC, rfl, hnC, hC⟩, hF, hO⟩ := hrel
            obtain ⟨hgL3, hh1, hh2⟩ := H.out.prg (SpD.g hO) k p Hp.out gL rfl
            rw [← Hnf.out] at hh2
            clear hh1
            have hz3 := hO.size
            by_cases hjn : j < nf ∧ j < 6
            · obtain ⟨hj1, hj2⟩ := hjn
              have g2 : (j : Int) < (nf : Int) := by omega
              have g3 : (j : Int) < 6 := by omega
              obtain ⟨f, hf⟩ : ∃ f, p.fs[j]? = some f := ⟨_, List.getElem?_eq_getElem (by have := Hnf.out; omega)⟩
              obtain ⟨gF, hAF, hgF, hfc⟩ := H.out.fn (SpD.g hO) p (List.mem_of_getElem? Hp.out) j f hf
              rw [hAF] at hh2
              obtain ⟨w4, hw4⟩ : ∃ w4, w4 = w3.alloc (.cells #[.slice f.A f.code.length f.c] 48) := ⟨_, rfl⟩
              have hb34 : Below w3.heap.size w3 w4 := by rw [hw4]; exact (Below.refl _ _).alloc (Nat.le_refl _) _
              have hU4 : Blk w4 w3.heap.size 48 #[.slice f.A f.code.length f.c] := by rw [hw4]; exact Blk.new _ _ _
              have hfn := Hsm.out f (List.mem_of_getElem? hf)
              have hnC2 : nC ≤ 60 := by
                have h1 := codeLs_take Hp.out
                have h2 := codeFs_len (l.take k)
                have h3 := codeLs_len (l.take k)
                rw [List.length_append, List.length_map, List.length_take] at hnC
                have h4 : (l.take k).length ≤ 9 := by rw [List.length_take]; omega
                omega
              have HF := Lib.hid hF
              have HO := Lib.hid hO
              have HC := Lib.hid hC
              have HC4 := Lib.hid (Own.below hC hb34 (Nat.le_refl _))
              have HnC := Lib.hid hnC
              have Hf := Lib.hid hf
              have Hb34 := Lib.hid hb34
              have HU4 := Lib.hid hU4
              have Hw4 := Lib.hid hw4
              clear hF hO hC hnC hf hb34 hU4 hw4 hAF
              go_wp2_with (refine wpList_at 75 rfl ?_; refine wp_stop ?_)
              try refine ⟨?_⟩
              rw [← Hw4.out]
              have hz34 := Hb34.out.size
              refine wpList_app rfl (.tmp 64) (.tmp 74) eIRow rfl rfl HC4.out (m := 1) (c' := 1) (us := [.slice f.A f.code.length f.c]) rfl (RV.of_blk HU4.out) rfl (by intro v hv; simp only [List.mem_cons, List.not_mem_nil, or_false] at hv; rcases hv with rfl; rfl) (by unfold maxLen; omega) (by omega) (by omega) (by intro h; cases h) ?_
              intro A5 c5 w5 hown5 hg5 hA5
              have hO5 : Only (fun b => AC.map (·.block) = some b) w4 w5 := Only.of_grown hg5 fun k hk => hk
              have HF5 := Lib.hid (FullG.only (FullG.only HF.out (Only.of_fresh (S := fun _ => False) Hb34.out) fun _ _ _ _ h => h) hO5 fun q hq b e e2 => by
                obtain ⟨t, ht⟩ := List.mem_iff_getElem?.1 hq
                exact ownG_ne HC.out (HF.out.own t q ht) (by decide) b e2 e)
              have HO5 := Lib.hid ((HO.out.trans (Only.of_fresh (S := SpD l) Hb34.out)).grown hg5 fun k e => .inr (Own.row HC.out k e).1)
              have HC5 := Lib.hid hown5
              clear hown5 hg5 hA5 hO5 HC4 HU4 Hb34 Hw4
              go_wp2_with fail
              exact ⟨⟨j + 1, by omega, by omega, by go_num, ⟨A5, nC + 1, c5, rfl, by rw [HnC.out, lgF_next Hf.out, List.length_append, List.length_append, List.length_append]; rfl, by rw [lgF_next Hf.out, ← List.append_assoc, List.map_append]; exact HC5.out⟩, HF5.out, HO5.out⟩, by simp [intOf]; omega⟩
            · have hjall := lgF_all (fs := p.fs) (by rw [← Hnf.out]; exact hjn) hj6
              rw [hjall, ← codeLs_take Hp.out] at hC
              have hnC2 := hnC
              rw [hjall, ← codeLs_take Hp.out] at hnC2
              have HF := Lib.hid hF
              have HO := Lib.hid hO
              have HC := Lib.hid hC
              have HnC := Lib.hid hnC2
              clear hF hO hC hnC hnC2 hjall
              by_cases hj1 : j < nf
              · have g2 : (j : Int) < (nf : Int) := by omega
                have g3 : ¬ (j : Int) < 6 := by omega
                go_wp2_with fail
                exact ⟨⟨k + 1, by omega, by go_num, ⟨AC, nC, cC, rfl, HnC.out, HC.out⟩, HF.out, HO.out⟩, by simp [intOf]; omega⟩
              · have g2 : ¬ (j : Int) < (nf : Int) := by omega
                go_wp2_with fail
                exact ⟨⟨k + 1, by omega, by go_num, ⟨AC, nC, cC, rfl, HnC.out, HC.out⟩, HF.out, HO.out⟩, by simp [intOf]; omega⟩
    · obtain rfl : k = N := by omega
      have hlk : l.take k = l := by rw [HN.out]; exact List.take_length
      rw [hlk] at hC hnC
      have hD : ∀ t q, (dataLs l)[t]? = some q → Own w1 B 5 1 q.A q.n q.c (mkB (dataLs l) t) := hF.last (by rw [dataLs_len]; exact HN.out)
      have hC0 := FullG.only (FullG.first (mk := mkI (codeLs l)) H.out.ownC) hO fun q hq b e ⟨q2, hq2, e2⟩ => by
        obtain ⟨t, ht⟩ := List.mem_iff_getElem?.1 hq
        obtain ⟨t2, ht2⟩ := List.mem_iff_getElem?.1 hq2
        exact ownG_ne (H.out.ownC t q ht) (H.out.ownD t2 q2 ht2) (by decide) b e e2
      have hnC2 : nC ≤ 54 := by have := HML.out; omega
      have HF := Lib.hid hC0
      have HP := Lib.hid (show Ph2 w w1 B l AC nC cC from ⟨SpD.g hO, hD, hC⟩)
      have HnC := Lib.hid hnC
      clear hC0 hD hF hO hC hnC hlk HF0
      go_wp2_with fail
      go_loopw [7] (fun v wr => ∃ i : Nat, i ≤ nC ∧ v = .int .i64 i ∧ FullG wr B 52 2 (codeLs l) (mkI (codeLs l)) (vC l) i 0 ∧ Ph2 w wr B l AC nC cC) (fun v _ => nC - (intOf v).toNat)
      case atStart => exact ⟨0, Nat.zero_le _, rfl, HF.out, HP.out⟩
      case round =>
        rename World => w2
        obtain ⟨i, hi, rfl, hF, hP⟩ := hrel
        by_cases hin : i < nC
        · have g1 : (i : Int) < (nC : Int) := by omega
          obtain ⟨q, hq⟩ : ∃ q, (codeLs l)[i]? = some q := ⟨_, List.getElem?_eq_getElem (by have := HnC.out; omega)⟩
          obtain ⟨gC, hAC, hgC, hh⟩ := hP.at_ hq hin
          subst hAC
          have hqn := H.out.smallC i q hq
          have Hq := Lib.hid hq
          have hF2 : FullG w2 B 52 2 (codeLs l) (mkI (codeLs l)) (vC l) i (0 * 2) := hF
          have HF2 := Lib.hid hF2
          have HP2 := Lib.hid hP
          obtain ⟨qA, qn, qc⟩ := q
          dsimp only at hh hqn
          clear hq hF hF2 hP HF HP
          go_wp2_with fail
          clear hh
          go_loopw [8] (fun v wr => ∃ j : Nat, j ≤ qn ∧ v = .int .i64 j ∧ FullG wr B 52 2 (codeLs l) (mkI (codeLs l)) (vC l) i (j * 2) ∧ Ph2 w wr B l (some ⟨gC, 0, none⟩) nC cC) (fun v _ => qn - (intOf v).toNat)
          case atStart => exact ⟨0, Nat.zero_le _, rfl, HF2.out, HP2.out⟩
          case round =>
            rename World => w3
            obtain ⟨j, hj, rfl, hF, hP⟩ := hrel
            obtain ⟨gC', hAC, hgC3, hh⟩ := hP.at_ Hq.out hin
            injection hAC with e
            injection e with e1 e2
            subst e1
            dsimp only at hh
            by_cases hjn : j < qn
            · have g2 : (j : Int) < (qn : Int) := by omega
              have ho := hF.own i _ Hq.out
              rw [if_neg (Nat.lt_irrefl _), if_pos rfl] at ho
              dsimp only at ho
              obtain ⟨g, hA, hg1, hg2⟩ := ownG_some ho (by omega)
              subst hA
              have hl := mkI_fit H.out i _ Hq.out
              have hml := mkI_len (codeLs l) i
              rw [nOf_eq Hq.out] at hml
              dsimp only at hml
              have hfl := fillC_len (mkI (codeLs l) i) (vC l i) (j * 2) hl (by omega)
              obtain ⟨c0, f0, -⟩ := ownG_at ho (j * 2) (by omega)
              obtain ⟨c1, f1, -⟩ := ownG_at ho (j * 2 + 1) (by omega)
              generalize (fillC (mkI (codeLs l) i) (vC l i) (j * 2))[j * 2] = z0 at *
              generalize (fillC (mkI (codeLs l) i) (vC l i) (j * 2))[j * 2 + 1] = z1 at *
              obtain ⟨m0, m1⟩ := mkI_get (codeLs l) i j (by rw [nOf_eq Hq.out]; exact hjn)
              have hF1 := (hF.put H.out.soleC Hq.out g rfl hl _ m0).put H.out.soleC Hq.out g rfl hl _ m1
              have HF1 := Lib.hid hF1
              have HP1 := Lib.hid ((hP.set Hq.out rfl ho (j * 2) (.int .i64 (500 + (i : Int)))).set Hq.out rfl (ownG_set ho (j * 2) (.int .i64 (500 + (i : Int)))) (j * 2 + 1) (.int .i64 (j : Int)))
              clear ho hl hml hfl m0 m1 hF1 hF hP
              go_wp2_with fail
              exact ⟨⟨j + 1, by omega, by go_num, by rw [show (j + 1) * 2 = j * 2 + 1 + 1 from by omega]; exact HF1.out, HP1.out⟩, by simp [intOf]; omega⟩
            · obtain rfl : j = qn := by omega
              have hvl := (H.out.ownC i _ Hq.out).1
              dsimp only at hvl
              rw [← hvl] at hF
              have HFn := Lib.hid (hF.next (mkI_fit H.out i _ Hq.out))
              have HP1 := Lib.hid hP
              clear hF hP hvl
              go_wp2_with fail
              exact ⟨⟨i + 1, by omega, by go_num, HFn.out, HP1.out⟩, by simp [intOf]; omega⟩
        · obtain rfl : i = nC := by omega
          have HCd := Lib.hid (hF.last HnC.out)
          have HP2 := Lib.hid hP
          have hz02 := hP.o.size
          clear hF hP HF HP
          go_wp2_with (refine wpList_at 103 rfl ?_; refine wp_stop ?_)
          try refine ⟨?_⟩
          refine wpList_app rfl (.tmp 101) (.tmp 102) eIRow rfl rfl (Own.nil _ w2.heap.size _ _) (m := i) (c' := cC) (us := (codeLs l).map LG.val) rfl (RV.of_own HP2.out.row) (by rw [List.length_map, ← HnC.out, Nat.mul_one]) (vals_one _) (by unfold maxLen; omega) (by omega) (Nat.le_refl _) (own_nil HP2.out.row) ?_
          intro AM cM w3 hown3 hg3 hA3
          rw [Nat.zero_add, List.nil_append] at hown3
          have hb23 : Below w2.heap.size w2 w3 := (Below.refl w2.heap.size w2).grown hg3 (Nat.le_refl _) fun q hq => by cases hq
          have hz23 := hb23.size
          have HO3 := Lib.hid (HP2.out.o.trans (Only.of_fresh (S := SpG l) hb23))
          have HCd3 := Lib.hid (show ∀ t q, (codeLs l)[t]? = some q → Own w3 B 52 2 q.A q.n q.c (mkI (codeLs l) t) from fun t q hq => Own.below (HCd.out t q hq) hb23 (Nat.le_refl _))
          have HD3 := Lib.hid (show ∀ t q, (dataLs l)[t]? = some q → Own w3 B 5 1 q.A q.n q.c (mkB (dataLs l) t) from fun t q hq => Own.below (HP2.out.d t q hq) hb23 (Nat.le_refl _))
          have HR3 := Lib.hid (Own.below HP2.out.row hb23 (Nat.le_refl _))
          have Hold := Lib.hid (show ∀ b, AC.map (·.block) = some b → b < w2.heap.size from fun b e => (Own.row HP2.out.row b e).2)
          have HM3 := Lib.hid hown3
          clear hown3 hg3 hA3 hb23 HCd HP2
          simp only [Nat.zero_add]
          go_wp2_with fail
          go_loopw [10, 11] (fun v i wr => ∃ t : Nat, t ≤ k ∧ i = .int .i64 t ∧ RowV wr w3.heap.size 22 (dataLs (l.take t)) v ∧ Below w3.heap.size w3 wr) (fun _ i _ => k - (intOf i).toNat)
          case atStart => exact ⟨0, Nat.zero_le _, rfl, RowV.nil _ _ _, Below.refl _ _⟩
          case round =>
            rename World => w4
            obtain ⟨t, ht, rfl, ⟨AD, nD, cD, rfl, hnD, hD⟩, hB⟩ := hrel
            have hz34 := hB.size
            by_cases htk : t < k
            · have g1 : (t : Int) < (k : Int) := by omega
              obtain ⟨p, hp⟩ : ∃ p, l[t]? = some p := ⟨_, List.getElem?_eq_getElem (by have := HN.out; omega)⟩
              obtain ⟨gL, hL, hgL⟩ := H.out.at_ (by have := HN.out; omega)
              subst hL
              obtain ⟨hgL4, hh1, -⟩ := H.out.prg (HO3.out.trans (Only.of_fresh (S := SpG l) hB)) t p hp gL rfl
              have hnd : p.data.length ≤ 2000000 := (H.out.small p (List.mem_of_getElem? hp)).1
              have hnD2 : nD = t := by rw [hnD, dataLs_len, List.length_take]; have := HN.out; omega
              obtain ⟨w5, hw5⟩ : ∃ w5, w5 = w4.alloc (.cells #[.slice p.AD p.data.length p.cD] 22) := ⟨_, rfl⟩
              have hb45 : Below w4.heap.size w4 w5 := by rw [hw5]; exact (Below.refl _ _).alloc (Nat.le_refl _) _
              have hz45 := hb45.size
              have HU5 := Lib.hid (show Blk w5 w4.heap.size 22 #[.slice p.AD p.data.length p.cD] from by rw [hw5]; exact Blk.new _ _ _)
              have HD5 := Lib.hid (Own.below hD hb45 (Nat.le_refl _))
              have HB5 := Lib.hid (hB.trans (hb45.mono hz34))
              have Hp := Lib.hid hp
              have HnD := Lib.hid hnD2
              have Hw5 := Lib.hid hw5
              have hnD9 : nD ≤ 9 := by omega
              clear hp hD hnD hB hw5 hb45 hnD2
              go_wp2_with (refine wpList_at 117 rfl ?_; refine wp_stop ?_)
              try refine ⟨?_⟩
              rw [← Hw5.out]
              refine wpList_app rfl (.tmp 110) (.tmp 116) eBRow rfl rfl HD5.out (m := 1) (c' := 1) (us := [.slice p.AD p.data.length p.cD]) rfl (RV.of_blk HU5.out) rfl (by intro v hv; simp only [List.mem_cons, List.not_mem_nil, or_false] at hv; rcases hv with rfl; rfl) (by unfold maxLen; omega) (by omega) (by omega) (by intro h; cases h) ?_
              intro A6 c6 w6 hown6 hg6 hA6
              have HB6 := Lib.hid (HB5.out.grown hg6 (by omega) fun q hq => (Own.row HD5.out q hq).1)
              have HD6 := Lib.hid hown6
              clear hown6 hg6 hA6 HD5 HU5 HB5 Hw5 hh1
              go_wp2_with fail
              exact ⟨⟨t + 1, by omega, by go_num, ⟨A6, nD + 1, c6, rfl, by rw [HnD.out, dataLs_len, List.length_take]; have := HN.out; omega, by rw [dataLs_take Hp.out, List.map_append]; exact HD6.out⟩, HB6.out⟩, by simp [intOf]; omega⟩
            · obtain rfl : t = k := by omega
              have hlk : l.take t = l := by rw [HN.out]; exact List.take_length
              rw [hlk] at hD hnD
              have HT0 := Lib.hid (TwoG.start H.out HO3.out hB HCd3.out HD3.out (by rw [← HnC.out]; exact HR3.out) Hold.out (by rw [← HnC.out]; exact HM3.out) (by rw [← hnD]; exact hD) hz02 hz23)
              have hnD' := hnD
              clear hlk hD hnD hB HCd3 HD3 HR3 HM3 HO3
              obtain ⟨Ba, hBa⟩ : ∃ n, n = w2.heap.size := ⟨_, rfl⟩
              obtain ⟨Bc, hBc⟩ : ∃ n, n = w3.heap.size := ⟨_, rfl⟩
              obtain ⟨Bd, hBd⟩ : ∃ n, n = w4.heap.size := ⟨_, rfl⟩
              have HT1 := Lib.hid (show TwoG w w4 l B Ba Bc Bd AC cC (fun _ => 0) _ _ AM cM (fun _ => 0) _ _ AD cD from by rw [hBa, hBc, hBd]; exact HT0.out)
              clear HT0 hBa hBc hBd
              have hBw := H.out.hB
              obtain rfl : t = nD := by rw [hnD', dataLs_len]; exact HN.out
              clear hnD'
              go_wp2_with fail
              go_loopw [12] (fun v wr => ∃ (kk : Nat) (GAc : Nat → Option Addr) (GCc : Nat → Nat) (GAd : Nat → Option Addr) (GCd : Nat → Nat), kk ≤ 30 ∧ v = .int .i64 kk ∧ TwoG w wr l B Ba Bc Bd AC cC (fun _ => kk) GAc GCc AM cM (fun _ => kk) GAd GCd AD cD) (fun v _ => 30 - (intOf v).toNat)
              case atStart => exact ⟨0, _, _, _, _, Nat.zero_le _, rfl, HT1.out⟩
              case round =>
                rename World => w5
                obtain ⟨kk, GAc, GCc, GAd, GCd, hkk, rfl, hT⟩ := hrel
                by_cases hk30 : kk < 30
                · have g3 : (kk : Int) < 30 := by omega
                  have HT := Lib.hid (hT.congr (mc' := fun t => if t < 0 then kk + 1 else kk) (fun t _ => by rw [if_neg (Nat.not_lt_zero _)]) fun _ _ => rfl)
                  clear hT HT1
                  go_wp2_with fail
                  go_loopw [13] (fun v wr => ∃ (n : Nat) (GAc : Nat → Option Addr) (GCc : Nat → Nat), n ≤ i ∧ v = .int .i64 n ∧ TwoG w wr l B Ba Bc Bd AC cC (fun t => if t < n then kk + 1 else kk) GAc GCc AM cM (fun _ => kk) GAd GCd AD cD) (fun v _ => i - (intOf v).toNat)
                  case atStart => exact ⟨0, GAc, GCc, Nat.zero_le _, rfl, HT.out⟩
                  case round =>
                    rename World => w6
                    clear HT GAc GCc
                    obtain ⟨n, GAc, GCc, hn, rfl, hT⟩ := hrel
                    by_cases hni : n < i
                    · have g4 : (n : Int) < (i : Int) := by omega
                      obtain ⟨p, hp⟩ : ∃ p, (codeLs l)[n]? = some p := ⟨_, List.getElem?_eq_getElem (by have := HnC.out; omega)⟩
                      obtain ⟨w0, hw0, hM⟩ := hT.c
                      obtain ⟨gM, hAM, -, -⟩ := ownG_some hM.row (by have := HnC.out; omega)
                      subst hAM
                      have hpn := H.out.smallC n p hp
                      obtain ⟨r0, rf0, rl0⟩ := rowG_at hM.row hp
                      obtain ⟨hoi, -, -⟩ := hM.done n p hp
                      rw [if_neg (Nat.lt_irrefl _)] at hoi r0
                      obtain ⟨w7, hw7⟩ : ∃ w7, w7 = w6.alloc (.cells #[.int .i64 (900 + (n : Int)), .int .i64 (kk : Int)] 52) := ⟨_, rfl⟩
                      have hb67 : Below w6.heap.size w6 w7 := by rw [hw7]; exact (Below.refl _ _).alloc (Nat.le_refl _) _
                      have HU7 := Lib.hid (show Blk w7 w6.heap.size 52 #[.int .i64 (900 + (n : Int)), .int .i64 (kk : Int)] from by rw [hw7]; exact Blk.new _ _ _)
                      have Hoi7 := Lib.hid (Own.below hoi hb67 (Nat.le_refl _))
                      have HM := Lib.hid hM
                      have HT := Lib.hid hT
                      have Hp := Lib.hid hp
                      have Hb67 := Lib.hid hb67
                      have Hw7 := Lib.hid hw7
                      have hbs : B ≤ w7.heap.size := by have h1 := hT.o.size; have h2 := hb67.size; omega
                      clear hM hT hp hoi hb67 hw7 hw0
                      go_wp2_with (refine wpList_at 139 rfl ?_; refine wp_stop ?_)
                      try refine ⟨?_⟩
                      rw [← Hw7.out]
                      refine wpList_app2 rfl (.tmp 133) (.tmp 138) eIns rfl rfl Hoi7.out (m := 1) (c' := 1) (us := [.int .i64 (900 + (n : Int)), .int .i64 (kk : Int)]) rfl (RV.of_blk HU7.out) rfl (by intro v hv; simp only [List.mem_cons, List.not_mem_nil, or_false] at hv; rcases hv with rfl | rfl <;> rfl) (by decide) (by unfold maxLen; omega) (by omega) hbs ?_
                      intro A8 c8 w8 hown8 hA8
                      have hrow8 := HM.out.row3 Hp.out (by decide) Hb67.out hA8
                      obtain ⟨s0, sf0, sl0⟩ := rowG_at hrow8 Hp.out
                      obtain ⟨w9, hw9⟩ : ∃ w9, w9 = w8.setCell ⟨gM, n, none⟩ (.slice A8 (p.n + kk + 1) c8) := ⟨_, rfl⟩
                      have hTn := HT.out.stepC (w4 := w9) (us := [.int .i64 (900 + (n : Int)), .int .i64 (kk : Int)]) (c2 := c8) H.out Hp.out (by rw [if_neg (Nat.lt_irrefl _)]; exact tlI_next n kk) Hb67.out (by rw [if_neg (Nat.lt_irrefl _)]; exact hown8) hA8 (by rw [if_neg (Nat.lt_irrefl _)]; exact hw9)
                      have HTn := Lib.hid (hTn.congr (mc' := fun t => if t < n + 1 then kk + 1 else kk) (fun t _ => by
                        by_cases h1 : t = n
                        · subst h1; simp
                        · by_cases h2 : t < n
                          · simp [h1, h2]; omega
                          · simp [h1, h2]; omega) fun _ _ => rfl)
                      have Hw9 := Lib.hid hw9
                      clear hown8 hA8 hrow8 hTn hw9 HM HT HU7 Hb67 Hoi7 Hw7 r0 rf0
                      go_wp2_with fail
                      exact ⟨⟨n + 1, _, _, by omega, by go_num, by rw [← Hw9.out]; exact HTn.out⟩, by simp [intOf]; omega⟩
                    · obtain rfl : n = i := by omega
                      have HT := Lib.hid (hT.congr (mc' := fun _ => kk + 1) (md' := fun t => if t < 0 then kk + 1 else kk) (fun t ht => by rw [if_pos (by have := HnC.out; omega)]) fun t _ => by rw [if_neg (Nat.not_lt_zero _)])
                      clear hT
                      go_wp2_with fail
                      go_loopw [14] (fun v wr => ∃ (m : Nat) (GAd : Nat → Option Addr) (GCd : Nat → Nat), m ≤ t ∧ v = .int .i64 m ∧ TwoG w wr l B Ba Bc Bd AC cC (fun _ => kk + 1) GAc GCc AM cM (fun t => if t < m then kk + 1 else kk) GAd GCd AD cD) (fun v _ => t - (intOf v).toNat)
                      case atStart => exact ⟨0, GAd, GCd, Nat.zero_le _, rfl, HT.out⟩
                      case round =>
                        rename World => w7
                        clear HT
                        obtain ⟨m, GAd, GCd, hm, rfl, hT⟩ := hrel
                        by_cases hmt : m < t
                        · have g4 : (m : Int) < (t : Int) := by omega
                          obtain ⟨p, hp⟩ : ∃ p, (dataLs l)[m]? = some p := ⟨_, List.getElem?_eq_getElem (by have := HN.out; rw [dataLs_len]; omega)⟩
                          obtain ⟨w0, hw0, hM⟩ := hT.d
                          obtain ⟨gM, hAM, -, -⟩ := ownG_some hM.row (by have := HN.out; rw [dataLs_len]; omega)
                          subst hAM
                          have hpn := H.out.smallD m p hp
                          obtain ⟨r0, rf0, rl0⟩ := rowG_at hM.row hp
                          obtain ⟨hoi, -, -⟩ := hM.done m p hp
                          rw [if_neg (Nat.lt_irrefl _)] at hoi r0
                          obtain ⟨w8, hw8⟩ : ∃ w8, w8 = w7.alloc (.cells #[.int .u8 (tlE m kk)] 5) := ⟨_, rfl⟩
                          have hb78 : Below w7.heap.size w7 w8 := by rw [hw8]; exact (Below.refl _ _).alloc (Nat.le_refl _) _
                          have HU8 := Lib.hid (show Blk w8 w7.heap.size 5 #[.int .u8 (tlE m kk)] from by rw [hw8]; exact Blk.new _ _ _)
                          have Hoi8 := Lib.hid (Own.below hoi hb78 (Nat.le_refl _))
                          have HM := Lib.hid hM
                          have HT := Lib.hid hT
                          have Hp := Lib.hid hp
                          have Hb78 := Lib.hid hb78
                          unfold tlE at hw8
                          have Hw8 := Lib.hid hw8
                          have hbs : B ≤ w8.heap.size := by have h1 := hT.o.size; have h2 := hb78.size; omega
                          clear hM hT hp hoi hb78 hw8 hw0
                          go_wp2_with (refine wpList_at 160 rfl ?_; refine wp_stop ?_)
                          try refine ⟨?_⟩
                          rw [← Hw8.out]
                          refine wpList_app2 rfl (.tmp 152) (.tmp 159) eByte rfl rfl Hoi8.out (m := 1) (c' := 1) (us := [.int .u8 (tlE m kk)]) rfl (RV.of_blk HU8.out) rfl (by intro v hv; simp only [List.mem_cons, List.not_mem_nil, or_false] at hv; subst hv; rfl) (by decide) (by unfold maxLen; omega) (by omega) hbs ?_
                          intro A9 c9 w9 hown9 hA9
                          have hrow9 := HM.out.row3 Hp.out (by decide) Hb78.out hA9
                          obtain ⟨s0, sf0, sl0⟩ := rowG_at hrow9 Hp.out
                          obtain ⟨wA, hwA⟩ : ∃ wA, wA = w9.setCell ⟨gM, m, none⟩ (.slice A9 (p.n + kk + 1) c9) := ⟨_, rfl⟩
                          have hTn := HT.out.stepD (w4 := wA) (us := [.int .u8 (tlE m kk)]) (c2 := c9) H.out Hp.out (by rw [if_neg (Nat.lt_irrefl _)]; exact tlB_next m kk) Hb78.out (by rw [if_neg (Nat.lt_irrefl _)]; exact hown9) hA9 (by rw [if_neg (Nat.lt_irrefl _)]; exact hwA)
                          have HTn := Lib.hid (hTn.congr (mc' := fun _ => kk + 1) (md' := fun t => if t < m + 1 then kk + 1 else kk) (fun _ _ => rfl) fun t _ => by
                            by_cases h1 : t = m
                            · subst h1; simp
                            · by_cases h2 : t < m
                              · simp [h1, h2]; omega
                              · simp [h1, h2]; omega)
                          have HwA := Lib.hid hwA
                          clear hown9 hA9 hrow9 hTn hwA HM HT HU8 Hb78 Hoi8 Hw8 r0 rf0
                          go_wp2_with fail
                          exact ⟨⟨m + 1, _, _, by omega, by go_num, by rw [← HwA.out]; exact HTn.out⟩, by simp [intOf]; omega⟩
                        · obtain rfl : m = t := by omega
                          have HT := Lib.hid (hT.congr (mc' := fun _ => kk + 1) (md' := fun _ => kk + 1) (fun _ _ => rfl) fun t ht => by rw [if_pos (by rw [dataLs_len] at ht; have := HN.out; omega)])
                          clear hT
                          go_wp2_with fail
                          exact ⟨⟨kk + 1, _, _, _, _, by omega, by go_num, HT.out⟩, by simp [intOf]; omega⟩
                · obtain rfl : kk = 30 := by omega
                  have HT := Lib.hid hT
                  clear hT HT1
                  go_wp2_with fail
                  go_loopw [15] (fun v wr => ∃ a : Nat, a ≤ i ∧ v = .int .i64 a ∧ Below w5.heap.size w5 wr) (fun v _ => i - (intOf v).toNat)
                  case atStart => exact ⟨0, Nat.zero_le _, rfl, Below.refl _ _⟩
                  case round =>
                    rename World => w6
                    obtain ⟨a, ha, rfl, hB⟩ := hrel
                    by_cases hai : a < i
                    · have g4 : (a : Int) < (i : Int) := by omega
                      obtain ⟨p, hp⟩ : ∃ p, (codeLs l)[a]? = some p := ⟨_, List.getElem?_eq_getElem (by have := HnC.out; omega)⟩
                      obtain ⟨w0, -, hM⟩ := HT.out.c
                      obtain ⟨gM, hAM, -, -⟩ := ownG_some hM.row (by have := HnC.out; omega)
                      subst hAM
                      have hrw := HT.out.row
                      obtain ⟨gC, hAC, -, -⟩ := ownG_some hrw (by have := HnC.out; omega)
                      subst hAC
                      have hpn := H.out.smallC a p hp
                      obtain ⟨q1, q2⟩ := List.getElem?_eq_some_iff.1 (vals_get hp)
                      obtain ⟨hh, -, hgC⟩ := ownG_at hrw a q1
                      rw [q2] at hh
                      obtain ⟨r0, rf0, rl0⟩ := rowG_at hM.row hp
                      obtain ⟨hoi, hri, -⟩ := hM.done a p hp
                      obtain ⟨gA, hgA, -, hgA2⟩ := ownG_some hoi (by omega)
                      rw [hgA] at hoi r0
                      have Hoi := Lib.hid hoi
                      have Hri := Lib.hid hri
                      have Hp := Lib.hid hp
                      have HB := Lib.hid hB
                      obtain ⟨e1, -⟩ := bcell hB
                      have hh4 : w6.cell? ⟨gC, a, none⟩ = some p.val := by rw [e1 _ _ hgC]; exact hh
                      have Hh3 := Lib.hid hh
                      have Hr3 := Lib.hid r0
                      have hz4 := hB.size
                      obtain ⟨pA, pn, pc⟩ := p
                      dsimp only [LG.val] at hh4 hpn
                      try dsimp only at Hr3
                      try dsimp only at Hoi
                      try dsimp only at Hri
                      clear hoi hri hp hB e1 hh r0 rf0 hgA hM hrw q1 q2
                      have hlL : gC < w6.heap.size := by omega
                      have hlM : gM < w6.heap.size := by omega
                      go_wp2_with fail
                      go_loopw [17] (fun v wr => ∃ j : Nat, j ≤ pn + 30 ∧ v = .int .i64 j ∧ Below w5.heap.size w5 wr) (fun v _ => pn + 30 - (intOf v).toNat)
                      case atStart => exact ⟨0, Nat.zero_le _, rfl, HB.out⟩
                      case round =>
                        rename World => w7
                        obtain ⟨j, hj, rfl, hB⟩ := hrel
                        obtain ⟨e1, -⟩ := bcell hB
                        have hz5 := hB.size
                        have hh5 : w7.cell? ⟨gC, a, none⟩ = some (.slice pA pn pc) := by rw [e1 _ _ hgC]; exact Hh3.out
                        have r5 : w7.cell? ⟨gM, a, none⟩ = some (.slice (some ⟨gA, 0, none⟩) (pn + 30) (GCc a)) := by rw [e1 _ _ rl0]; exact Hr3.out
                        have Hoi5 := Own.below Hoi.out hB (Nat.le_refl _)
                        have Hri5 := Hri.out.below hB
                        have hlL5 : gC < w7.heap.size := by omega
                        have hlM5 : gM < w7.heap.size := by omega
                        have hgA5 : gA < w7.heap.size := by omega
                        have HB5 := Lib.hid hB
                        have hmkl : (mkI (codeLs l) a).length = pn * 2 := by rw [mkI_len, nOf_eq Hp.out]
                        by_cases hj1 : j < pn
                        · have g5 : (j : Int) < (pn : Int) := by omega
                          have g6 : (j : Int) < (pn : Int) + 30 := by omega
                          obtain ⟨m0, m1⟩ := mkI_get (codeLs l) a j (by rw [nOf_eq Hp.out]; exact hj1)
                          have x0 : w7.cell? ⟨gA, j * 2, none⟩ = some (.int .i64 (500 + (a : Int))) := by
                            have h1 : (mkI (codeLs l) a ++ tlI a 30)[j * 2]? = some (.int .i64 (500 + (a : Int))) := by rw [List.getElem?_append_left (by omega)]; exact m0
                            obtain ⟨h2, h3⟩ := List.getElem?_eq_some_iff.1 h1
                            have h4 := (ownG_at Hoi5 (j * 2) h2).1
                            rw [h3] at h4
                            exact h4
                          have x1 : w7.cell? ⟨gA, j * 2 + 1, none⟩ = some (.int .i64 (j : Int)) := by
                            have h1 : (mkI (codeLs l) a ++ tlI a 30)[j * 2 + 1]? = some (.int .i64 (j : Int)) := by rw [List.getElem?_append_left (by omega)]; exact m1
                            obtain ⟨h2, h3⟩ := List.getElem?_eq_some_iff.1 h1
                            have h4 := (ownG_at Hoi5 (j * 2 + 1) h2).1
                            rw [h3] at h4
                            exact h4
                          obtain ⟨bp, op, hpA, hbp, hcp⟩ := Hri5.at_ (by rw [hmkl]; omega)
                          have y0 := hcp _ _ m0
                          have y1 := hcp _ _ m1
                          rw [← Nat.add_assoc] at y1
                          rw [hpA] at hh5
                          clear hcp m0 m1 Hoi5 Hri5 e1 hB hmkl
                          go_wp2_with fail
                          obtain ⟨w8, hw8⟩ : ∃ w8, w8 = w7.alloc (.cells #[.int .i64 (500 + (a : Int)), .int .i64 (j : Int)] 52) := ⟨_, rfl⟩
                          rw [← hw8]
                          have hb78 : Below w7.heap.size w7 w8 := by rw [hw8]; exact (Below.refl _ _).alloc (Nat.le_refl _) _
                          have hX8 : Blk w8 w7.heap.size 52 #[.int .i64 (500 + (a : Int)), .int .i64 (j : Int)] := by rw [hw8]; exact Blk.new _ _ _
                          obtain ⟨gx, hgx⟩ : ∃ g, g = w7.heap.size := ⟨_, rfl⟩
                          rw [← hgx] at hX8
                          rw [← hgx]
                          have b0 : w8.cell? ⟨gx, 0, none⟩ = some (.int .i64 (500 + (a : Int))) := hX8.cell 0
                          have b1 : w8.cell? ⟨gx, 1, none⟩ = some (.int .i64 (j : Int)) := hX8.cell 1
                          have hgx6 := hX8.lt
                          obtain ⟨e2, -⟩ := bcell hb78
                          have hh6 := (e2 _ _ hlL5).trans hh5
                          have r6 := (e2 _ _ hlM5).trans r5
                          have y06 := (e2 _ _ hbp).trans y0
                          have y16 := (e2 _ _ hbp).trans y1
                          have x06 := (e2 _ _ hgA5).trans x0
                          have x16 := (e2 _ _ hgA5).trans x1
                          have hz6 := hb78.size
                          have hgA6 : gA < w8.heap.size := by omega
                          have hbp6 : bp < w8.heap.size := by omega
                          have hlL6 : gC < w8.heap.size := by omega
                          have hlM6 : gM < w8.heap.size := by omega
                          have HB6 := Lib.hid (HB5.out.trans (hb78.mono hz5))
                          clear hw8 hb78 hX8 e2 hgx hh5 r5 y0 y1 x0 x1 hbp hlL5 hlM5 hgA5 hpA
                          have hw500 : IntKind.i64.wrap (500 + (a : Int)) = 500 + (a : Int) := by rw [IntKind.wrap_i64]; omega
                          have hd1 : decide (pn ≤ j) = false := by simp; omega
                          have hd2 : decide (j < pn) = true := by simp; omega
                          go_quiet (fail)
                          go_wp2_with fail
                          exact ⟨⟨j + 1, by omega, by go_num, below_drewN HB6.out _⟩, by simp [intOf]; omega⟩
                        by_cases hj2 : j < pn + 30
                        · obtain ⟨q, hq⟩ : ∃ q, j = pn + q := ⟨j - pn, by omega⟩
                          have g6 : (j : Int) < (pn : Int) + 30 := by omega
                          obtain ⟨m0, m1⟩ := tlI_get a 30 q (by omega)
                          have x0 : w7.cell? ⟨gA, j * 2, none⟩ = some (.int .i64 (900 + (a : Int))) := by
                            have h1 : (mkI (codeLs l) a ++ tlI a 30)[j * 2]? = some (.int .i64 (900 + (a : Int))) := by rw [List.getElem?_append_right (by omega), hmkl, show j * 2 - pn * 2 = q * 2 from by omega]; exact m0
                            obtain ⟨h2, h3⟩ := List.getElem?_eq_some_iff.1 h1
                            have h4 := (ownG_at Hoi5 (j * 2) h2).1
                            rw [h3] at h4
                            exact h4
                          have x1 : w7.cell? ⟨gA, j * 2 + 1, none⟩ = some (.int .i64 (q : Int)) := by
                            have h1 : (mkI (codeLs l) a ++ tlI a 30)[j * 2 + 1]? = some (.int .i64 (q : Int)) := by rw [List.getElem?_append_right (by omega), hmkl, show j * 2 + 1 - pn * 2 = q * 2 + 1 from by omega]; exact m1
                            obtain ⟨h2, h3⟩ := List.getElem?_eq_some_iff.1 h1
                            have h4 := (ownG_at Hoi5 (j * 2 + 1) h2).1
                            rw [h3] at h4
                            exact h4
                          have hq2 : (q : Int) = (j : Int) - (pn : Int) := by omega
                          rw [hq2] at x1
                          clear m0 m1 Hoi5 Hri5 e1 hB hmkl hq hq2
                          have g7 : ¬ (j : Int) < (pn : Int) := by omega
                          go_wp2_with fail
                          obtain ⟨w8, hw8⟩ : ∃ w8, w8 = w7.alloc (.cells #[.int .i64 (900 + (a : Int)), .int .i64 ((j : Int) - (pn : Int))] 52) := ⟨_, rfl⟩
                          rw [← hw8]
                          have hb78 : Below w7.heap.size w7 w8 := by rw [hw8]; exact (Below.refl _ _).alloc (Nat.le_refl _) _
                          have hX8 : Blk w8 w7.heap.size 52 #[.int .i64 (900 + (a : Int)), .int .i64 ((j : Int) - (pn : Int))] := by rw [hw8]; exact Blk.new _ _ _
                          obtain ⟨gx, hgx⟩ : ∃ g, g = w7.heap.size := ⟨_, rfl⟩
                          rw [← hgx] at hX8
                          rw [← hgx]
                          have b0 : w8.cell? ⟨gx, 0, none⟩ = some (.int .i64 (900 + (a : Int))) := hX8.cell 0
                          have b1 : w8.cell? ⟨gx, 1, none⟩ = some (.int .i64 ((j : Int) - (pn : Int))) := hX8.cell 1
                          have hgx6 := hX8.lt
                          obtain ⟨e2, -⟩ := bcell hb78
                          have r6 := (e2 _ _ hlM5).trans r5
                          have x06 := (e2 _ _ hgA5).trans x0
                          have x16 := (e2 _ _ hgA5).trans x1
                          have hz6 := hb78.size
                          have hgA6 : gA < w8.heap.size := by omega
                          have hlM6 : gM < w8.heap.size := by omega
                          have HB6 := Lib.hid (HB5.out.trans (hb78.mono hz5))
                          clear hw8 hb78 hX8 hgx hh5 r5 x0 x1 hlL5 hlM5 hgA5 e2
                          have hd1 : decide (pn ≤ j) = true := by simp; omega
                          have hd2 : decide (j < pn) = false := by simp; omega
                          go_quiet (fail)
                          go_wp2_with fail
                          exact ⟨⟨j + 1, by omega, by go_num, below_drewN HB6.out _⟩, by simp [intOf]; omega⟩
                        · obtain rfl : j = pn + 30 := by omega
                          clear Hoi5 Hri5 e1 hmkl
                          go_wp2_with fail
                          exact ⟨⟨a + 1, by omega, by go_num, hB⟩, by simp [intOf]; omega⟩
                    · obtain rfl : a = i := by omega
                      have HB := Lib.hid hB
                      clear hB
                      go_wp2_with fail
                      go_loopw [19] (fun v wr => ∃ m : Nat, m ≤ t ∧ v = .int .i64 m ∧ Below w5.heap.size w5 wr) (fun v _ => t - (intOf v).toNat)
                      case atStart => exact ⟨0, Nat.zero_le _, rfl, HB.out⟩
                      case round =>
                        rename World => w7
                        clear HB
                        obtain ⟨m, hm, rfl, hB⟩ := hrel
                        by_cases hmt : m < t
                        · have g4 : (m : Int) < (t : Int) := by omega
                          obtain ⟨r, hr⟩ : ∃ r, l[m]? = some r := ⟨_, List.getElem?_eq_getElem (by have := HN.out; omega)⟩
                          have hp := dataLs_get hr
                          obtain ⟨w0, -, hM⟩ := HT.out.d
                          obtain ⟨gM, hAM, -, -⟩ := ownG_some hM.row (by rw [dataLs_len]; have := HN.out; omega)
                          subst hAM
                          obtain ⟨gL, hL, -⟩ := H.out.at_ (by have := HN.out; omega)
                          subst hL
                          obtain ⟨hgL, hh, -⟩ := H.out.prg HT.out.o m r hr gL rfl
                          have hpn := H.out.smallD m _ hp
                          obtain ⟨r0, rf0, rl0⟩ := rowG_at hM.row hp
                          obtain ⟨hoi, hri, -⟩ := hM.done m _ hp
                          obtain ⟨gA, hgA, -, hgA2⟩ := ownG_some hoi (by omega)
                          rw [hgA] at hoi r0
                          obtain ⟨pA, hpA0⟩ : ∃ x, x = r.AD := ⟨_, rfl⟩
                          obtain ⟨pn, hpn0⟩ : ∃ x, x = r.data.length := ⟨_, rfl⟩
                          obtain ⟨pc, hpc0⟩ : ∃ x, x = r.cD := ⟨_, rfl⟩
                          rw [← hpA0, ← hpn0, ← hpc0] at hp
                          rw [← hpA0, ← hpn0, ← hpc0] at hh
                          dsimp only at hpn hoi r0 hri
                          rw [← hpn0] at hpn hoi r0
                          rw [← hpA0] at hri
                          have Hoi := Lib.hid hoi
                          have Hri := Lib.hid hri
                          have Hp := Lib.hid hp
                          have HB := Lib.hid hB
                          obtain ⟨e1, -⟩ := bcell hB
                          have hh4 : w7.cell? ⟨gL, m * 3 + 1, none⟩ = some (.slice pA pn pc) := by rw [e1 _ _ hgL]; exact hh
                          have Hh3 := Lib.hid hh
                          have Hr3 := Lib.hid r0
                          have hz4 := hB.size
                          clear hoi hri hp hB e1 hh r0 rf0 hgA hM hr hpA0 hpn0 hpc0
                          have hlL : gL < w7.heap.size := by omega
                          have hlM : gM < w7.heap.size := by omega
                          go_wp2_with fail
                          go_loopw [21] (fun v wr => ∃ j : Nat, j ≤ pn + 30 ∧ v = .int .i64 j ∧ Below w5.heap.size w5 wr) (fun v _ => pn + 30 - (intOf v).toNat)
                          case atStart => exact ⟨0, Nat.zero_le _, rfl, HB.out⟩
                          case round =>
                            rename World => w8
                            obtain ⟨j, hj, rfl, hB⟩ := hrel
                            obtain ⟨e1, -⟩ := bcell hB
                            have hz5 := hB.size
                            have hh5 : w8.cell? ⟨gL, m * 3 + 1, none⟩ = some (.slice pA pn pc) := by rw [e1 _ _ hgL]; exact Hh3.out
                            have r5 : w8.cell? ⟨gM, m, none⟩ = some (.slice (some ⟨gA, 0, none⟩) (pn + 30) (GCd m)) := by rw [e1 _ _ rl0]; exact Hr3.out
                            have Hoi5 := Own.below Hoi.out hB (Nat.le_refl _)
                            have Hri5 := Hri.out.below hB
                            have hlL5 : gL < w8.heap.size := by omega
                            have hlM5 : gM < w8.heap.size := by omega
                            have hgA5 : gA < w8.heap.size := by omega
                            have HB5 := Lib.hid hB
                            have hmkl : (mkB (dataLs l) m).length = pn * 1 := by rw [mkB_len, nOf_eq Hp.out]
                            by_cases hj1 : j < pn
                            · have g5 : (j : Int) < (pn : Int) := by omega
                              have g6 : (j : Int) < (pn : Int) + 30 := by omega
                              have m0 := mkB_get (dataLs l) m j (by rw [nOf_eq Hp.out]; exact hj1)
                              have x0 : w8.cell? ⟨gA, j, none⟩ = some (.int .u8 (mkE m j)) := by
                                have h1 : (mkB (dataLs l) m ++ tlB m 30)[j]? = some (.int .u8 (mkE m j)) := by rw [List.getElem?_append_left (by omega)]; exact m0
                                obtain ⟨h2, h3⟩ := List.getElem?_eq_some_iff.1 h1
                                have h4 := (ownG_at Hoi5 j h2).1
                                rw [h3] at h4
                                exact h4
                              obtain ⟨bp, op, hpA, hbp, hcp⟩ := Hri5.at_ (by rw [hmkl]; omega)
                              have y0 := hcp _ _ m0
                              rw [hpA] at hh5
                              unfold mkE at x0 y0
                              clear hcp m0 Hoi5 Hri5 e1 hB hmkl hpA
                              go_wp2_with fail
                              exact ⟨⟨j + 1, by omega, by go_num, HB5.out⟩, by simp [intOf]; omega⟩
                            by_cases hj2 : j < pn + 30
                            · obtain ⟨q, hq⟩ : ∃ q, j = pn + q := ⟨j - pn, by omega⟩
                              have g5 : ¬ (j : Int) < (pn : Int) := by omega
                              have g7 : (pn : Int) ≤ (j : Int) := by omega
                              have g6 : (j : Int) < (pn : Int) + 30 := by omega
                              have m0 := tlB_get m 30 q (by omega)
                              have x0 : w8.cell? ⟨gA, j, none⟩ = some (.int .u8 (tlE m q)) := by
                                have h1 : (mkB (dataLs l) m ++ tlB m 30)[j]? = some (.int .u8 (tlE m q)) := by rw [List.getElem?_append_right (by omega), hmkl, show j - pn * 1 = q from by omega]; exact m0
                                obtain ⟨h2, h3⟩ := List.getElem?_eq_some_iff.1 h1
                                have h4 := (ownG_at Hoi5 j h2).1
                                rw [h3] at h4
                                exact h4
                              have hq2 : (q : Int) = (j : Int) - (pn : Int) := by omega
                              unfold tlE at x0
                              rw [hq2] at x0
                              clear m0 Hoi5 Hri5 e1 hB hmkl hq hq2
                              go_wp2_with fail
                              exact ⟨⟨j + 1, by omega, by go_num, HB5.out⟩, by simp [intOf]; omega⟩
                            · obtain rfl : j = pn + 30 := by omega
                              clear Hoi5 Hri5 e1 hmkl
                              go_wp2_with fail
                              exact ⟨⟨m + 1, by omega, by go_num, hB⟩, by simp [intOf]; omega⟩
                        · have HF := Lib.hid (HT.out.o.trans (Only.of_fresh (S := SpG l) hB))
                          obtain rfl : m = t := by omega
                          clear hB
                          go_wp2_with fail
                          go_ret
                          exact ⟨rfl, HF.out⟩
end Go.Proofs.Ytadnjfoinmeloaa
