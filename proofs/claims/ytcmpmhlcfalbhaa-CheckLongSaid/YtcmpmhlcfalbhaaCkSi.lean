/- The law's sameInts (printed by gen_cksi.py). -/
import Derived.Test.YtcmpmhlcfalbhaaHeadA
import Derived.Test.YtcmpmhlcfalbhaaChPa
namespace Go.Proofs.Ytcmpmhlcfalbhaa
open Go.RowKit

set_option maxRecDepth 100000 in
set_option maxHeartbeats 4000000 in
theorem sameInts13_any (A B : Option Addr) (cA cB : Nat) (a b : List Int) (w : World) (hA : RV w A (a.map fun x => .int .i64 x)) (hB : RV w B (b.map fun x => .int .i64 x)) (hla : a.length ≤ maxLen) :
    Calls Try.prog 14 #[.slice A a.length cA, .slice B b.length cB] w fun e w' => e = .returned (.bool (a == b)) ∧ Below w.heap.size w w' := by
  unfold maxLen at hla
  obtain ⟨n, hn⟩ : ∃ n, n = a.length := ⟨_, rfl⟩
  obtain ⟨m, hm⟩ : ∃ n, n = b.length := ⟨_, rfl⟩
  rw [← hn, ← hm]
  rw [← hn] at hla
  have HN := Lib.hid hn
  have HM := Lib.hid hm
  have HA := Lib.hid hA
  have HB := Lib.hid hB
  clear hn hm hA hB
  obtain ⟨R, hR⟩ : ∃ R, R = (a == b) := ⟨_, rfl⟩
  rw [← hR]
  have HR := Lib.hid hR
  clear hR
  go_enter Try.func14, Try.ntmps14
  by_cases hnm : (n : Int) = (m : Int)
  · obtain rfl : n = m := by omega
    go_wp2_with fail
    go_loopw [5] (fun i wr => ∃ k : Nat, k ≤ n ∧ i = .int .i64 (k : Int) ∧ Hid (∀ j, j < k → a[j]? = b[j]?) ∧ Below w.heap.size w wr) (fun i _ => n - (intOf i).toNat)
    case atStart => exact ⟨0, Nat.zero_le _, rfl, Lib.hid (fun j h => absurd h (Nat.not_lt_zero _)), Below.refl _ _⟩
    case round =>
      rename World => wr
      obtain ⟨k, hk, rfl, hE, hb⟩ := hrel
      by_cases hlt : k < n
      · have g1 : (k : Int) < (n : Int) := by omega
        have hka : k < a.length := by have := HN.out; omega
        have hkb : k < b.length := by have := HM.out; omega
        obtain ⟨ba, oa, rfl, hba, hca⟩ := (HA.out.below hb).at_ (by rw [List.length_map]; omega)
        obtain ⟨bb, ob, rfl, hbb, hcb⟩ := (HB.out.below hb).at_ (by rw [List.length_map]; omega)
        have c1 := hca k (.int .i64 a[k]) (by rw [List.getElem?_map, List.getElem?_eq_getElem hka]; rfl)
        have c2 := hcb k (.int .i64 b[k]) (by rw [List.getElem?_map, List.getElem?_eq_getElem hkb]; rfl)
        obtain ⟨x, hx⟩ : ∃ x, x = a[k] := ⟨_, rfl⟩
        obtain ⟨y, hy⟩ : ∃ y, y = b[k] := ⟨_, rfl⟩
        rw [← hx] at c1
        rw [← hy] at c2
        have HX := Lib.hid (show a[k]? = some x from by rw [List.getElem?_eq_getElem hka, hx])
        have HY := Lib.hid (show b[k]? = some y from by rw [List.getElem?_eq_getElem hkb, hy])
        have Hb := Lib.hid hb
        clear hca hcb hx hy hb
        by_cases hxy : x = y
        · subst hxy
          go_wp2_with fail
          obtain ⟨SC, hSCd⟩ : ∃ S : World → Prop, S = (fun w' => w'.cell? ⟨ba, oa + k, none⟩ = some (.int .i64 x) ∧ w'.cell? ⟨bb, ob + k, none⟩ = some (.int .i64 x)) := ⟨_, rfl⟩
          have hSC : SC wr.drew := by rw [hSCd]; exact ⟨c1, c2⟩
          have HSC := Lib.hid (show SC wr.drew from hSC)
          have HSd := Lib.hid hSCd
          clear hSC hSCd
          refine region_heldT 9 SC (by kernel_rfl) (by decide) ?_
          refine HeadW.takeA 0 (v := .slice (some ⟨ba, oa, none⟩) n cA) rfl (by kernel_rfl) rfl (by decide) (fun _ _ _ hL => seqB_ready hL.1) (by kernel_rfl) (by kernel_rfl) (fun _ _ _ h => h) HSC.out (.inl ⟨by kernel_rfl, by intro w hSw; rw [HSd.out] at hSw; obtain ⟨e1, e2⟩ := hSw; go_simp⟩) ?_
          simp only [Act.put, List.setIfInBounds_toArray]
          refine HeadW.takeA 1 (v := .int .i64 (k : Int)) rfl (by kernel_rfl) rfl (by decide) (fun _ _ _ hL => seqB_ready hL.1) (by kernel_rfl) (by kernel_rfl) (fun _ _ _ h => h) HSC.out (.inl ⟨by kernel_rfl, by intro w hSw; rw [HSd.out] at hSw; obtain ⟨e1, e2⟩ := hSw; go_simp⟩) ?_
          simp only [Act.put]
          refine HeadW.takeA 2 (v := .pointer (some ⟨ba, oa + k, none⟩)) rfl (by kernel_rfl) rfl (by decide) (fun _ _ _ hL => seqB_ready hL.1) (by kernel_rfl) (by kernel_rfl) (fun _ _ _ h => h) HSC.out (.inl ⟨by kernel_rfl, by intro w hSw; rw [HSd.out] at hSw; obtain ⟨e1, e2⟩ := hSw; go_simp⟩) ?_
          simp only [Act.put]
          refine HeadW.takeA 3 (v := .int .i64 x) rfl (by kernel_rfl) rfl (by decide) (fun _ _ _ hL => seqB_ready hL.1) (by kernel_rfl) (by kernel_rfl) (fun _ _ _ h => h) HSC.out (.inl ⟨by kernel_rfl, by intro w hSw; rw [HSd.out] at hSw; obtain ⟨e1, e2⟩ := hSw; go_simp⟩) ?_
          simp only [Act.put]
          refine HeadW.takeA 4 (v := .slice (some ⟨bb, ob, none⟩) n cB) rfl (by kernel_rfl) rfl (by decide) (fun _ _ _ hL => seqB_ready hL.1) (by kernel_rfl) (by kernel_rfl) (fun _ _ _ h => h) HSC.out (.inl ⟨by kernel_rfl, by intro w hSw; rw [HSd.out] at hSw; obtain ⟨e1, e2⟩ := hSw; go_simp⟩) ?_
          simp only [Act.put]
          refine HeadW.takeA 5 (v := .int .i64 (k : Int)) rfl (by kernel_rfl) rfl (by decide) (fun _ _ _ hL => seqB_ready hL.1) (by kernel_rfl) (by kernel_rfl) (fun _ _ _ h => h) HSC.out (.inl ⟨by kernel_rfl, by intro w hSw; rw [HSd.out] at hSw; obtain ⟨e1, e2⟩ := hSw; go_simp⟩) ?_
          simp only [Act.put]
          refine HeadW.takeA 6 (v := .pointer (some ⟨bb, ob + k, none⟩)) rfl (by kernel_rfl) rfl (by decide) (fun _ _ _ hL => seqB_ready hL.1) (by kernel_rfl) (by kernel_rfl) (fun _ _ _ h => h) HSC.out (.inl ⟨by kernel_rfl, by intro w hSw; rw [HSd.out] at hSw; obtain ⟨e1, e2⟩ := hSw; go_simp⟩) ?_
          simp only [Act.put]
          refine HeadW.takeA 7 (v := .int .i64 x) rfl (by kernel_rfl) rfl (by decide) (fun _ _ _ hL => seqB_ready hL.1) (by kernel_rfl) (by kernel_rfl) (fun _ _ _ h => h) HSC.out (.inl ⟨by kernel_rfl, by intro w hSw; rw [HSd.out] at hSw; obtain ⟨e1, e2⟩ := hSw; go_simp⟩) ?_
          simp only [Act.put]
          refine HeadW.takeA 8 (v := .bool false) rfl (by kernel_rfl) rfl (by decide) (fun _ _ _ hL => seqB_ready hL.1) (by kernel_rfl) (by kernel_rfl) (fun _ _ _ h => h) HSC.out (.inl ⟨by kernel_rfl, by intro w hSw; rw [HSd.out] at hSw; obtain ⟨e1, e2⟩ := hSw; go_simp⟩) ?_
          simp only [Act.put]
          simp only [List.getElem_toArray, List.getElem_cons_succ, List.getElem_cons_zero, List.setIfInBounds_toArray, List.set_cons_succ, List.set_cons_zero]
          refine fun hInv => ⟨by kernel_rfl, ?_⟩
          clear hInv
          simp only [List.drop_succ_cons, List.drop_zero]
          clear HSC HSd
          clear SC
          go_wp2_with fail
          refine ⟨⟨k + 1, by omega, by first | rfl | go_num, Lib.hid (fun j hj => ?_), Hb.out.drew⟩, by simp [intOf]; omega⟩
          by_cases e : j = k
          · subst e; rw [HX.out, HY.out]
          · exact hE.out j (by omega)
        · have h1 : (x == y) = false := by simp [hxy]
          have h2 : (x != y) = true := by simp [hxy]
          go_wp2_with fail
          obtain ⟨SC, hSCd⟩ : ∃ S : World → Prop, S = (fun w' => w'.cell? ⟨ba, oa + k, none⟩ = some (.int .i64 x) ∧ w'.cell? ⟨bb, ob + k, none⟩ = some (.int .i64 y)) := ⟨_, rfl⟩
          have hSC : SC wr.drew := by rw [hSCd]; exact ⟨c1, c2⟩
          have HSC := Lib.hid (show SC wr.drew from hSC)
          have HSd := Lib.hid hSCd
          clear hSC hSCd
          refine region_heldT 9 SC (by kernel_rfl) (by decide) ?_
          refine HeadW.takeA 0 (v := .slice (some ⟨ba, oa, none⟩) n cA) rfl (by kernel_rfl) rfl (by decide) (fun _ _ _ hL => seqB_ready hL.1) (by kernel_rfl) (by kernel_rfl) (fun _ _ _ h => h) HSC.out (.inl ⟨by kernel_rfl, by intro w hSw; rw [HSd.out] at hSw; obtain ⟨e1, e2⟩ := hSw; go_simp⟩) ?_
          simp only [Act.put, List.setIfInBounds_toArray]
          refine HeadW.takeA 1 (v := .int .i64 (k : Int)) rfl (by kernel_rfl) rfl (by decide) (fun _ _ _ hL => seqB_ready hL.1) (by kernel_rfl) (by kernel_rfl) (fun _ _ _ h => h) HSC.out (.inl ⟨by kernel_rfl, by intro w hSw; rw [HSd.out] at hSw; obtain ⟨e1, e2⟩ := hSw; go_simp⟩) ?_
          simp only [Act.put]
          refine HeadW.takeA 2 (v := .pointer (some ⟨ba, oa + k, none⟩)) rfl (by kernel_rfl) rfl (by decide) (fun _ _ _ hL => seqB_ready hL.1) (by kernel_rfl) (by kernel_rfl) (fun _ _ _ h => h) HSC.out (.inl ⟨by kernel_rfl, by intro w hSw; rw [HSd.out] at hSw; obtain ⟨e1, e2⟩ := hSw; go_simp⟩) ?_
          simp only [Act.put]
          refine HeadW.takeA 3 (v := .int .i64 x) rfl (by kernel_rfl) rfl (by decide) (fun _ _ _ hL => seqB_ready hL.1) (by kernel_rfl) (by kernel_rfl) (fun _ _ _ h => h) HSC.out (.inl ⟨by kernel_rfl, by intro w hSw; rw [HSd.out] at hSw; obtain ⟨e1, e2⟩ := hSw; go_simp⟩) ?_
          simp only [Act.put]
          refine HeadW.takeA 4 (v := .slice (some ⟨bb, ob, none⟩) n cB) rfl (by kernel_rfl) rfl (by decide) (fun _ _ _ hL => seqB_ready hL.1) (by kernel_rfl) (by kernel_rfl) (fun _ _ _ h => h) HSC.out (.inl ⟨by kernel_rfl, by intro w hSw; rw [HSd.out] at hSw; obtain ⟨e1, e2⟩ := hSw; go_simp⟩) ?_
          simp only [Act.put]
          refine HeadW.takeA 5 (v := .int .i64 (k : Int)) rfl (by kernel_rfl) rfl (by decide) (fun _ _ _ hL => seqB_ready hL.1) (by kernel_rfl) (by kernel_rfl) (fun _ _ _ h => h) HSC.out (.inl ⟨by kernel_rfl, by intro w hSw; rw [HSd.out] at hSw; obtain ⟨e1, e2⟩ := hSw; go_simp⟩) ?_
          simp only [Act.put]
          refine HeadW.takeA 6 (v := .pointer (some ⟨bb, ob + k, none⟩)) rfl (by kernel_rfl) rfl (by decide) (fun _ _ _ hL => seqB_ready hL.1) (by kernel_rfl) (by kernel_rfl) (fun _ _ _ h => h) HSC.out (.inl ⟨by kernel_rfl, by intro w hSw; rw [HSd.out] at hSw; obtain ⟨e1, e2⟩ := hSw; go_simp⟩) ?_
          simp only [Act.put]
          refine HeadW.takeA 7 (v := .int .i64 y) rfl (by kernel_rfl) rfl (by decide) (fun _ _ _ hL => seqB_ready hL.1) (by kernel_rfl) (by kernel_rfl) (fun _ _ _ h => h) HSC.out (.inl ⟨by kernel_rfl, by intro w hSw; rw [HSd.out] at hSw; obtain ⟨e1, e2⟩ := hSw; go_simp⟩) ?_
          simp only [Act.put]
          refine HeadW.takeA 8 (v := .bool true) rfl (by kernel_rfl) rfl (by decide) (fun _ _ _ hL => seqB_ready hL.1) (by kernel_rfl) (by kernel_rfl) (fun _ _ _ h => h) HSC.out (.inl ⟨by kernel_rfl, by intro w hSw; rw [HSd.out] at hSw; obtain ⟨e1, e2⟩ := hSw; go_simp⟩) ?_
          simp only [Act.put]
          simp only [List.getElem_toArray, List.getElem_cons_succ, List.getElem_cons_zero, List.setIfInBounds_toArray, List.set_cons_succ, List.set_cons_zero]
          refine fun hInv => ⟨by kernel_rfl, ?_⟩
          clear hInv
          simp only [List.drop_succ_cons, List.drop_zero]
          clear HSC HSd
          clear SC
          go_wp2_with fail
          go_ret
          refine ⟨?_, Hb.out.drew⟩
          have e : (a == b) = false := by
            rw [Bool.eq_false_iff]
            intro e
            have e2 : a = b := by simpa using e
            have := HX.out
            rw [e2, HY.out] at this
            injection this with this
            exact hxy this.symm
          rw [HR.out, e]
          rfl
      · obtain rfl : n = k := by omega
        have Hb := Lib.hid hb
        clear hb
        go_wp2_with fail
        go_ret
        refine ⟨?_, Hb.out⟩
        have e : a = b := by
          apply List.ext_getElem?
          intro j
          by_cases hj : j < n
          · exact hE.out j hj
          · rw [List.getElem?_eq_none (by have := HN.out; omega), List.getElem?_eq_none (by have := HM.out; omega)]
        rw [HR.out, e]
        simp
  · go_wp2_with fail
    go_ret
    refine ⟨?_, Below.refl _ _⟩
    have e : (a == b) = false := by
      rw [Bool.eq_false_iff]
      intro e
      have e2 : a = b := by simpa using e
      have h1 := HN.out
      have h2 := HM.out
      rw [e2, ← h2] at h1
      omega
    rw [HR.out, e]
    rfl
end Go.Proofs.Ytcmpmhlcfalbhaa
