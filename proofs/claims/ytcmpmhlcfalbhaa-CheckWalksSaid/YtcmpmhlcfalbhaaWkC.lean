/- Calls under way, in memory; the law's has and cells (printed by gen_wkc.py). -/
import Derived.Test.YtcmpmhlcfalbhaaWkP
import Derived.Test.YtcmpmhlcfalbhaaChHw
import Derived.Test.YtcmpmhlcfalbhaaHeadA
namespace Go.Proofs.Ytcmpmhlcfalbhaa
open Go.RowKit

/-- A call under way as it lies in memory: where its list of places lies besides. -/
structure FrM where
  x : Fr
  g : Nat
def frCells (y : FrM) : List Value := [.int .i64 (y.x.f : Int), .int .i64 (y.x.n : Int), .int .i64 y.x.h, .slice (some ⟨y.g, 0, none⟩) y.x.been.length y.x.been.length]
theorem frCells_len (l : List FrM) : (l.flatMap frCells).length = l.length * 4 := by
  induction l with
  | nil => rfl
  | cons x l ih => rw [List.flatMap_cons, List.length_append, ih, List.length_cons]; simp [frCells]; omega
theorem fr_one (l : List FrM) : ∀ u ∈ l.flatMap frCells, u.oneCell' = true := by
  intro u hu
  obtain ⟨x, -, hx⟩ := List.mem_flatMap.1 hu
  simp only [frCells, List.mem_cons, List.not_mem_nil, or_false] at hx
  rcases hx with rfl | rfl | rfl | rfl <;> rfl
theorem frCells_get (l : List FrM) (k j : Nat) (hk : k < l.length) (hj : j < 4) : (l.flatMap frCells)[k * 4 + j]? = (frCells l[k])[j]? := by
  induction l generalizing k with
  | nil => cases hk
  | cons x l ih =>
    rw [List.flatMap_cons]
    cases k with
    | zero => rw [Nat.zero_mul, Nat.zero_add, List.getElem?_append_left (by simp [frCells]; omega)]; rfl
    | succ k =>
      rw [List.getElem?_append_right (by simp [frCells]; omega), show (k + 1) * 4 + j - (frCells x).length = k * 4 + j from by simp [frCells]; omega]
      exact ih k (by simpa using hk)
/-- The four cells of a call in a row. -/
theorem fr_cells {w : World} {b off : Nat} {l : List FrM} (hc : ∀ j u, (l.flatMap frCells)[j]? = some u → w.cell? ⟨b, off + j, none⟩ = some u) (k : Nat) (y : FrM) (hk : l[k]? = some y) :
    w.cell? ⟨b, off + k * 4, none⟩ = some (.int .i64 (y.x.f : Int)) ∧ w.cell? ⟨b, off + k * 4 + 1, none⟩ = some (.int .i64 (y.x.n : Int)) ∧ w.cell? ⟨b, off + k * 4 + 2, none⟩ = some (.int .i64 y.x.h) ∧ w.cell? ⟨b, off + k * 4 + 3, none⟩ = some (.slice (some ⟨y.g, 0, none⟩) y.x.been.length y.x.been.length) := by
  obtain ⟨hkl, rfl⟩ := List.getElem?_eq_some_iff.1 hk
  have q0 := hc _ _ (frCells_get l k 0 hkl (by omega))
  have q1 := hc _ _ (frCells_get l k 1 hkl (by omega))
  have q2 := hc _ _ (frCells_get l k 2 hkl (by omega))
  have q3 := hc _ _ (frCells_get l k 3 hkl (by omega))
  rw [← Nat.add_assoc] at q1 q2 q3
  exact ⟨q0, q1, q2, q3⟩
set_option maxRecDepth 100000 in
set_option maxHeartbeats 2000000 in
theorem has13_any (A : Option Addr) (c : Nat) (l : List Int) (n : Int) (w : World) (hr : RV w A (l.map iv)) (hl : l.length ≤ 1000000) :
    Calls Try.prog 29 #[.slice A l.length c, .int .i64 n] w fun e w' => e = .returned (.bool (decide (n ∈ l))) ∧ Below w.heap.size w w' := by
  obtain ⟨N, hN⟩ : ∃ N, N = l.length := ⟨_, rfl⟩
  rw [← hN] at hl ⊢
  have HN := Lib.hid hN
  have HR := Lib.hid hr
  clear hN hr
  obtain ⟨R, hR⟩ : ∃ b, b = decide (n ∈ l) := ⟨_, rfl⟩
  rw [← hR]
  have HRe := Lib.hid hR
  clear hR
  go_enter Try.func29, Try.ntmps29
  go_wp2_with fail
  go_loopw [5] (fun iv_ wr => ∃ i : Nat, i ≤ N ∧ iv_ = .int .i64 (i : Int) ∧ Hid (∀ j y, j < i → l[j]? = some y → y ≠ n) ∧ Below w.heap.size w wr) (fun iv_ _ => N - (intOf iv_).toNat)
  case atStart => exact ⟨0, Nat.zero_le _, rfl, Lib.hid (fun j y hj => by omega), Below.refl _ _⟩
  case round =>
    rename World => wr
    obtain ⟨i, hi, rfl, HI, hB⟩ := hrel
    have HB := Lib.hid hB
    by_cases hlt : i < N
    · have g1 : (i : Int) < (N : Int) := by omega
      have hil : i < l.length := by rw [← HN.out]; exact hlt
      obtain ⟨b, off, rfl, hb, hc⟩ := (HR.out.below hB).at_ (by rw [List.length_map]; omega)
      have c0 := hc i (.int .i64 l[i]) (by rw [List.getElem?_map, List.getElem?_eq_getElem hil]; rfl)
      obtain ⟨y, hy⟩ : ∃ y, y = l[i] := ⟨_, rfl⟩
      rw [← hy] at c0
      have Hy := Lib.hid (show l[i]? = some y from by rw [hy]; exact List.getElem?_eq_getElem hil)
      clear hc hB hy
      by_cases hyn : y = n
      · have e1 : (y == n) = true := by simpa using hyn
        have HT := Lib.hid (show R = true from by rw [HRe.out, decide_eq_true_iff, ← hyn]; exact List.mem_of_getElem? Hy.out)
        clear hyn
        go_wp2_with fail
        go_ret
        exact ⟨by rw [HT.out]; rfl, HB.out⟩
      · have e1 : (y == n) = false := by simpa using hyn
        have HI2 := Lib.hid (show ∀ j z, j < i + 1 → l[j]? = some z → z ≠ n from fun j z hj hz => by
          by_cases e : j = i
          · subst e
            rw [Hy.out] at hz
            rw [← Option.some.inj hz]
            exact hyn
          · exact HI.out j z (by omega) hz)
        clear hyn
        go_wp2_with fail
        exact ⟨⟨i + 1, by omega, by first | rfl | go_num, HI2, HB.out⟩, by simp [intOf]; omega⟩
    · have g1 : ¬ (i : Int) < (N : Int) := by omega
      have HT := Lib.hid (show R = false from by
        rw [HRe.out, decide_eq_false_iff_not]
        intro hm
        obtain ⟨j, hj, hje⟩ := List.getElem_of_mem hm
        exact HI.out j n (by have := HN.out; omega) (by rw [List.getElem?_eq_getElem hj, hje]) rfl)
      clear hB
      go_wp2_with fail
      go_ret
      exact ⟨by rw [HT.out]; rfl, HB.out⟩
def sumM (P : Prg) : List FrM → Int
  | [] => 0
  | y :: r => 1 + P.locals y.x.f + y.x.h + sumM P r
theorem sumM_push (P : Prg) (l : List FrM) (y : FrM) : sumM P (l ++ [y]) = sumM P l + (1 + P.locals y.x.f + y.x.h) := by
  induction l with
  | nil => simp [sumM]
  | cons x l ih => rw [List.cons_append]; unfold sumM; rw [ih]; omega
theorem sumM_bnd (P : Prg) : ∀ (l : List FrM), (∀ y ∈ l, -16 ≤ y.x.h ∧ y.x.h ≤ 256 ∧ 0 ≤ P.locals y.x.f ∧ P.locals y.x.f ≤ 64) → -16 * (l.length : Int) ≤ sumM P l ∧ sumM P l ≤ 400 * (l.length : Int)
  | [], _ => by simp [sumM]
  | y :: l, h => by
    have h1 := sumM_bnd P l fun z hz => h z (List.mem_cons_of_mem _ hz)
    obtain ⟨h2, h3, h4, h5⟩ := h y (List.mem_cons_self ..)
    unfold sumM
    rw [List.length_cons]
    omega
set_option maxRecDepth 100000 in
set_option maxHeartbeats 2000000 in
theorem cells13_any (p : PrgM) (A : Option Addr) (c : Nat) (l : List FrM) (w : World) (hp : PrgAt w p) (hr : RV w A (l.flatMap frCells)) (hl : l.length ≤ 1000000) (hf : ∀ y ∈ l, y.x.f < p.fs.length ∧ -16 ≤ y.x.h ∧ y.x.h ≤ 256 ∧ 0 ≤ p.plain.locals y.x.f ∧ p.plain.locals y.x.f ≤ 64) :
    Calls Try.prog 30 #[p.val, .slice A l.length c] w fun e w' => e = .returned (.int .i64 (sumM p.plain l)) ∧ Below w.heap.size w w' := by
  obtain ⟨N, hN⟩ : ∃ N, N = l.length := ⟨_, rfl⟩
  rw [← hN] at hl ⊢
  obtain ⟨w1, hw1⟩ : ∃ w1, w1 = w.alloc (.cells #[.int .i64 p.mem, .slice p.AD p.data.length p.cD, .slice p.AF p.fs.length p.cF] 26) := ⟨_, rfl⟩
  have hb1 : Below w.heap.size w w1 := by rw [hw1]; exact (Below.refl _ _).alloc (Nat.le_refl _) _
  obtain ⟨gx, hgx⟩ : ∃ g, g = w.heap.size := ⟨_, rfl⟩
  have hX : Blk w1 gx 26 #[.int .i64 p.mem, .slice p.AD p.data.length p.cD, .slice p.AF p.fs.length p.cF] := by rw [hw1, hgx]; exact Blk.new _ _ _
  have HN := Lib.hid hN
  have HR := Lib.hid (hr.below hb1)
  have HP := Lib.hid (hp.below hb1)
  have HX := Lib.hid hX
  have HB1 := Lib.hid hb1
  have Hw1 := Lib.hid hw1
  have Hgx := Lib.hid hgx
  have Hf := Lib.hid hf
  clear hN hr hp hX hb1 hw1 hgx hf
  obtain ⟨R, hR⟩ : ∃ b, b = sumM p.plain l := ⟨_, rfl⟩
  rw [← hR]
  have HRe := Lib.hid hR
  clear hR
  go_enter Try.func30, Try.ntmps30
  go_upto_region 1 with (fail)
  rw [← Hw1.out, ← Hgx.out]
  clear Hw1 Hgx
  go_wp2_with fail
  go_loopw [5, 6] (fun sv iv_ wr => ∃ i : Nat, i ≤ N ∧ iv_ = .int .i64 (i : Int) ∧ sv = .int .i64 (sumM p.plain (l.take i)) ∧ Below w1.heap.size w1 wr) (fun _ iv_ _ => N - (intOf iv_).toNat)
  case atStart => exact ⟨0, Nat.zero_le _, rfl, rfl, Below.refl _ _⟩
  case round =>
    rename World => wr
    obtain ⟨i, hi, rfl, rfl, hB⟩ := hrel
    have HB := Lib.hid hB
    by_cases hlt : i < N
    · have g1 : (i : Int) < (N : Int) := by omega
      have hil : i < l.length := by rw [← HN.out]; exact hlt
      obtain ⟨y, hy⟩ : ∃ y, l[i]? = some y := ⟨_, List.getElem?_eq_getElem hil⟩
      obtain ⟨b, off, rfl, hb, hc⟩ := (HR.out.below hB).at_ (by rw [frCells_len]; omega)
      obtain ⟨c0, -, c2, -⟩ := fr_cells hc i y hy
      obtain ⟨hf1, hf2, hf3, hf4, hf5⟩ := Hf.out y (List.mem_of_getElem? hy)
      obtain ⟨gk, hgk⟩ : ∃ g, p.fs[y.x.f]? = some g := ⟨_, List.getElem?_eq_getElem hf1⟩
      obtain ⟨b0, off0, hA, hb0, -, q1, -, -, -, -⟩ := (HP.out.below hB).fn hgk
      have hXr := HX.out.below hB HX.out.lt
      have x2 : wr.cell? ⟨gx, 2, none⟩ = some (.slice (some ⟨b0, off0, none⟩) p.fs.length p.cF) := by rw [← hA]; exact hXr.cell 2
      have xl := hXr.lt
      have hlo : p.plain.locals y.x.f = gk.locals := PrgM.locals_plain hgk
      have hsb := sumM_bnd p.plain (l.take i) fun z hz => (Hf.out z (List.mem_of_mem_take hz)).2
      have htl : (l.take i).length = i := by rw [List.length_take]; omega
      rw [htl] at hsb
      have hnx : sumM p.plain (l.take (i + 1)) = sumM p.plain (l.take i) + (1 + gk.locals + y.x.h) := by
        rw [take_next l i hil, show l[i] = y from by rw [List.getElem?_eq_getElem hil] at hy; exact Option.some.inj hy, sumM_push, hlo]
      rw [hlo] at hf4 hf5
      obtain ⟨T, hT⟩ : ∃ t, t = sumM p.plain (l.take i) := ⟨_, rfl⟩
      rw [← hT] at hsb hnx ⊢
      obtain ⟨fy, hfy⟩ : ∃ f, f = y.x.f := ⟨_, rfl⟩
      obtain ⟨hy', hhy⟩ : ∃ h, h = y.x.h := ⟨_, rfl⟩
      obtain ⟨lo, hloc⟩ : ∃ h, h = gk.locals := ⟨_, rfl⟩
      rw [← hfy] at c0 q1 hf1
      rw [← hhy] at c2 hf2 hf3 hnx
      rw [← hloc] at q1 hf4 hf5 hnx
      have gf : (fy : Int) < (p.fs.length : Int) := by omega
      have Hnx := Lib.hid hnx
      have t1 : IntKind.i64.wrap (T + 1) = T + 1 := by rw [IntKind.wrap_i64]; omega
      have t2 : IntKind.i64.wrap (T + 1 + lo) = T + 1 + lo := by rw [IntKind.wrap_i64]; omega
      have t3 : IntKind.i64.wrap (T + 1 + lo + hy') = T + 1 + lo + hy' := by rw [IntKind.wrap_i64]; omega
      clear hc hB hy hA hgk hXr hlo htl hnx hT hfy hhy hloc
      go_wp2_with fail
      obtain ⟨SC, hSCd⟩ : ∃ S : World → Prop, S = fun w' => (w'.cell? ⟨gx, 2, none⟩ = some (.slice (some ⟨b0, off0, none⟩) p.fs.length p.cF) ∧ gx < w'.heap.size) ∧ (w'.cell? ⟨b, off + i * 4, none⟩ = some (.int .i64 (fy : Int)) ∧ w'.cell? ⟨b, off + i * 4 + 2, none⟩ = some (.int .i64 hy') ∧ b < w'.heap.size) ∧ (w'.cell? ⟨b0, off0 + fy * 4 + 1, none⟩ = some (.int .i64 lo) ∧ b0 < w'.heap.size) := ⟨_, rfl⟩
      have hSC : SC wr.drew := by rw [hSCd]; exact ⟨⟨x2, xl⟩, ⟨c0, c2, hb⟩, ⟨q1, hb0⟩⟩
      have HSC := Lib.hid (show SC wr.drew from hSC)
      have HSd := Lib.hid hSCd
      clear hSC hSCd
      refine region_heldT 21 SC (by kernel_rfl) (by decide) ?_
      refine HeadW.takeA 0 (v := .int .i64 T) rfl (by kernel_rfl) rfl (by decide) (fun _ _ _ hL => seqB_ready hL.1) (by kernel_rfl) (by kernel_rfl) (fun _ _ _ h => h) HSC.out (.inl ⟨by kernel_rfl, by intro w hSw; rw [HSd.out] at hSw; obtain ⟨⟨e0, l0⟩, ⟨e1, e2, l1⟩, ⟨e3, l2⟩⟩ := hSw; go_simp⟩) ?_
      simp only [Act.put, List.setIfInBounds_toArray]
      refine HeadW.takeA 1 (v := .int .i64 (T + 1)) rfl (by kernel_rfl) rfl (by decide) (fun _ _ _ hL => seqB_ready hL.1) (by kernel_rfl) (by kernel_rfl) (fun _ _ _ h => h) HSC.out (.inl ⟨by kernel_rfl, by intro w hSw; rw [HSd.out] at hSw; obtain ⟨⟨e0, l0⟩, ⟨e1, e2, l1⟩, ⟨e3, l2⟩⟩ := hSw; go_simp⟩) ?_
      simp only [Act.put]
      refine HeadW.takeA 2 (v := .pointer (some ⟨gx, 2, none⟩)) rfl (by kernel_rfl) rfl (by decide) (fun _ _ _ hL => seqB_ready hL.1) (by kernel_rfl) (by kernel_rfl) (fun _ _ _ h => h) HSC.out (.inl ⟨by kernel_rfl, by intro w hSw; rw [HSd.out] at hSw; obtain ⟨⟨e0, l0⟩, ⟨e1, e2, l1⟩, ⟨e3, l2⟩⟩ := hSw; go_simp⟩) ?_
      simp only [Act.put]
      try simp only [List.getElem_toArray, List.getElem_cons_succ, List.getElem_cons_zero, List.setIfInBounds_toArray, List.set_cons_succ, List.set_cons_zero]
      refine HeadW.takeA 3 (v := .slice (some ⟨b0, off0, none⟩) p.fs.length p.cF) rfl (by kernel_rfl) rfl (by decide) (fun _ _ _ hL => seqB_ready hL.1) (by kernel_rfl) (by kernel_rfl) (fun _ _ _ h => h) HSC.out (.inl ⟨by kernel_rfl, by intro w hSw; rw [HSd.out] at hSw; obtain ⟨⟨e0, l0⟩, ⟨e1, e2, l1⟩, ⟨e3, l2⟩⟩ := hSw; go_simp⟩) ?_
      simp only [Act.put]
      refine HeadW.takeA 4 (v := .slice (some ⟨b, off, none⟩) N c) rfl (by kernel_rfl) rfl (by decide) (fun _ _ _ hL => seqB_ready hL.1) (by kernel_rfl) (by kernel_rfl) (fun _ _ _ h => h) HSC.out (.inl ⟨by kernel_rfl, by intro w hSw; rw [HSd.out] at hSw; obtain ⟨⟨e0, l0⟩, ⟨e1, e2, l1⟩, ⟨e3, l2⟩⟩ := hSw; go_simp⟩) ?_
      simp only [Act.put]
      refine HeadW.takeA 5 (v := .int .i64 (i : Int)) rfl (by kernel_rfl) rfl (by decide) (fun _ _ _ hL => seqB_ready hL.1) (by kernel_rfl) (by kernel_rfl) (fun _ _ _ h => h) HSC.out (.inl ⟨by kernel_rfl, by intro w hSw; rw [HSd.out] at hSw; obtain ⟨⟨e0, l0⟩, ⟨e1, e2, l1⟩, ⟨e3, l2⟩⟩ := hSw; go_simp⟩) ?_
      simp only [Act.put]
      try simp only [List.getElem_toArray, List.getElem_cons_succ, List.getElem_cons_zero, List.setIfInBounds_toArray, List.set_cons_succ, List.set_cons_zero]
      refine HeadW.takeA 6 (v := .pointer (some ⟨b, off + i * 4, none⟩)) rfl (by kernel_rfl) rfl (by decide) (fun _ _ _ hL => seqB_ready hL.1) (by kernel_rfl) (by kernel_rfl) (fun _ _ _ h => h) HSC.out (.inl ⟨by kernel_rfl, by intro w hSw; rw [HSd.out] at hSw; obtain ⟨⟨e0, l0⟩, ⟨e1, e2, l1⟩, ⟨e3, l2⟩⟩ := hSw; go_simp⟩) ?_
      simp only [Act.put]
      refine HeadW.takeA 7 (v := .pointer (some ⟨b, off + i * 4, none⟩)) rfl (by kernel_rfl) rfl (by decide) (fun _ _ _ hL => seqB_ready hL.1) (by kernel_rfl) (by kernel_rfl) (fun _ _ _ h => h) HSC.out (.inl ⟨by kernel_rfl, by intro w hSw; rw [HSd.out] at hSw; obtain ⟨⟨e0, l0⟩, ⟨e1, e2, l1⟩, ⟨e3, l2⟩⟩ := hSw; go_simp⟩) ?_
      simp only [Act.put]
      refine HeadW.takeA 8 (v := .pointer (some ⟨b, off + i * 4, none⟩)) rfl (by kernel_rfl) rfl (by decide) (fun _ _ _ hL => seqB_ready hL.1) (by kernel_rfl) (by kernel_rfl) (fun _ _ _ h => h) HSC.out (.inl ⟨by kernel_rfl, by intro w hSw; rw [HSd.out] at hSw; obtain ⟨⟨e0, l0⟩, ⟨e1, e2, l1⟩, ⟨e3, l2⟩⟩ := hSw; go_simp⟩) ?_
      simp only [Act.put]
      try simp only [List.getElem_toArray, List.getElem_cons_succ, List.getElem_cons_zero, List.setIfInBounds_toArray, List.set_cons_succ, List.set_cons_zero]
      refine HeadW.takeA 9 (v := .int .i64 (fy : Int)) rfl (by kernel_rfl) rfl (by decide) (fun _ _ _ hL => seqB_ready hL.1) (by kernel_rfl) (by kernel_rfl) (fun _ _ _ h => h) HSC.out (.inl ⟨by kernel_rfl, by intro w hSw; rw [HSd.out] at hSw; obtain ⟨⟨e0, l0⟩, ⟨e1, e2, l1⟩, ⟨e3, l2⟩⟩ := hSw; go_simp⟩) ?_
      simp only [Act.put]
      refine HeadW.takeA 10 (v := .pointer (some ⟨b0, off0 + fy * 4, none⟩)) rfl (by kernel_rfl) rfl (by decide) (fun _ _ _ hL => seqB_ready hL.1) (by kernel_rfl) (by kernel_rfl) (fun _ _ _ h => h) HSC.out (.inl ⟨by kernel_rfl, by intro w hSw; rw [HSd.out] at hSw; obtain ⟨⟨e0, l0⟩, ⟨e1, e2, l1⟩, ⟨e3, l2⟩⟩ := hSw; go_simp⟩) ?_
      simp only [Act.put]
      refine HeadW.takeA 11 (v := .pointer (some ⟨b0, off0 + fy * 4 + 1, none⟩)) rfl (by kernel_rfl) rfl (by decide) (fun _ _ _ hL => seqB_ready hL.1) (by kernel_rfl) (by kernel_rfl) (fun _ _ _ h => h) HSC.out (.inl ⟨by kernel_rfl, by intro w hSw; rw [HSd.out] at hSw; obtain ⟨⟨e0, l0⟩, ⟨e1, e2, l1⟩, ⟨e3, l2⟩⟩ := hSw; go_simp⟩) ?_
      simp only [Act.put]
      try simp only [List.getElem_toArray, List.getElem_cons_succ, List.getElem_cons_zero, List.setIfInBounds_toArray, List.set_cons_succ, List.set_cons_zero]
      refine HeadW.takeA 12 (v := .int .i64 lo) rfl (by kernel_rfl) rfl (by decide) (fun _ _ _ hL => seqB_ready hL.1) (by kernel_rfl) (by kernel_rfl) (fun _ _ _ h => h) HSC.out (.inl ⟨by kernel_rfl, by intro w hSw; rw [HSd.out] at hSw; obtain ⟨⟨e0, l0⟩, ⟨e1, e2, l1⟩, ⟨e3, l2⟩⟩ := hSw; go_simp⟩) ?_
      simp only [Act.put]
      refine HeadW.takeA 13 (v := .int .i64 (T + 1 + lo)) rfl (by kernel_rfl) rfl (by decide) (fun _ _ _ hL => seqB_ready hL.1) (by kernel_rfl) (by kernel_rfl) (fun _ _ _ h => h) HSC.out (.inl ⟨by kernel_rfl, by intro w hSw; rw [HSd.out] at hSw; obtain ⟨⟨e0, l0⟩, ⟨e1, e2, l1⟩, ⟨e3, l2⟩⟩ := hSw; go_simp⟩) ?_
      simp only [Act.put]
      refine HeadW.takeA 14 (v := .slice (some ⟨b, off, none⟩) N c) rfl (by kernel_rfl) rfl (by decide) (fun _ _ _ hL => seqB_ready hL.1) (by kernel_rfl) (by kernel_rfl) (fun _ _ _ h => h) HSC.out (.inl ⟨by kernel_rfl, by intro w hSw; rw [HSd.out] at hSw; obtain ⟨⟨e0, l0⟩, ⟨e1, e2, l1⟩, ⟨e3, l2⟩⟩ := hSw; go_simp⟩) ?_
      simp only [Act.put]
      try simp only [List.getElem_toArray, List.getElem_cons_succ, List.getElem_cons_zero, List.setIfInBounds_toArray, List.set_cons_succ, List.set_cons_zero]
      refine HeadW.takeA 15 (v := .int .i64 (i : Int)) rfl (by kernel_rfl) rfl (by decide) (fun _ _ _ hL => seqB_ready hL.1) (by kernel_rfl) (by kernel_rfl) (fun _ _ _ h => h) HSC.out (.inl ⟨by kernel_rfl, by intro w hSw; rw [HSd.out] at hSw; obtain ⟨⟨e0, l0⟩, ⟨e1, e2, l1⟩, ⟨e3, l2⟩⟩ := hSw; go_simp⟩) ?_
      simp only [Act.put]
      refine HeadW.takeA 16 (v := .pointer (some ⟨b, off + i * 4, none⟩)) rfl (by kernel_rfl) rfl (by decide) (fun _ _ _ hL => seqB_ready hL.1) (by kernel_rfl) (by kernel_rfl) (fun _ _ _ h => h) HSC.out (.inl ⟨by kernel_rfl, by intro w hSw; rw [HSd.out] at hSw; obtain ⟨⟨e0, l0⟩, ⟨e1, e2, l1⟩, ⟨e3, l2⟩⟩ := hSw; go_simp⟩) ?_
      simp only [Act.put]
      refine HeadW.takeA 17 (v := .pointer (some ⟨b, off + i * 4 + 2, none⟩)) rfl (by kernel_rfl) rfl (by decide) (fun _ _ _ hL => seqB_ready hL.1) (by kernel_rfl) (by kernel_rfl) (fun _ _ _ h => h) HSC.out (.inl ⟨by kernel_rfl, by intro w hSw; rw [HSd.out] at hSw; obtain ⟨⟨e0, l0⟩, ⟨e1, e2, l1⟩, ⟨e3, l2⟩⟩ := hSw; go_simp⟩) ?_
      simp only [Act.put]
      try simp only [List.getElem_toArray, List.getElem_cons_succ, List.getElem_cons_zero, List.setIfInBounds_toArray, List.set_cons_succ, List.set_cons_zero]
      refine HeadW.takeA 18 (v := .int .i64 hy') rfl (by kernel_rfl) rfl (by decide) (fun _ _ _ hL => seqB_ready hL.1) (by kernel_rfl) (by kernel_rfl) (fun _ _ _ h => h) HSC.out (.inl ⟨by kernel_rfl, by intro w hSw; rw [HSd.out] at hSw; obtain ⟨⟨e0, l0⟩, ⟨e1, e2, l1⟩, ⟨e3, l2⟩⟩ := hSw; go_simp⟩) ?_
      simp only [Act.put]
      refine HeadW.takeA 19 (v := .int .i64 (T + 1 + lo + hy')) rfl (by kernel_rfl) rfl (by decide) (fun _ _ _ hL => seqB_ready hL.1) (by kernel_rfl) (by kernel_rfl) (fun _ _ _ h => h) HSC.out (.inl ⟨by kernel_rfl, by intro w hSw; rw [HSd.out] at hSw; obtain ⟨⟨e0, l0⟩, ⟨e1, e2, l1⟩, ⟨e3, l2⟩⟩ := hSw; go_simp⟩) ?_
      simp only [Act.put]
      refine HeadW.takeA 20 (v := .int .i64 (T + 1 + lo + hy')) rfl (by kernel_rfl) rfl (by decide) (fun _ _ _ hL => seqB_ready hL.1) (by kernel_rfl) (by kernel_rfl) (fun _ _ _ h => h) HSC.out (.inl ⟨by kernel_rfl, by intro w hSw; rw [HSd.out] at hSw; obtain ⟨⟨e0, l0⟩, ⟨e1, e2, l1⟩, ⟨e3, l2⟩⟩ := hSw; go_simp⟩) ?_
      simp only [Act.put]
      try simp only [List.getElem_toArray, List.getElem_cons_succ, List.getElem_cons_zero, List.setIfInBounds_toArray, List.set_cons_succ, List.set_cons_zero]
      try simp only [List.getElem_toArray, List.getElem_cons_succ, List.getElem_cons_zero, List.setIfInBounds_toArray, List.set_cons_succ, List.set_cons_zero]
      refine fun hInv => ⟨by kernel_rfl, ?_⟩
      clear hInv
      simp only [List.drop_succ_cons, List.drop_zero]
      clear HSC HSd
      clear SC
      go_wp2_with fail
      refine ⟨⟨i + 1, by omega, by first | rfl | go_num, by rw [Hnx.out]; first | rfl | (congr 1; omega), HB.out.drew⟩, by simp [intOf]; omega⟩
    · have g1 : ¬ (i : Int) < (N : Int) := by omega
      have HT := Lib.hid (show sumM p.plain (l.take i) = R from by rw [HRe.out, List.take_of_length_le (by have := HN.out; omega)])
      clear hB
      go_wp2_with fail
      go_ret
      exact ⟨by rw [← HT.out]; rfl, HB1.out.trans (HB.out.mono HB1.out.size)⟩
end Go.Proofs.Ytcmpmhlcfalbhaa
