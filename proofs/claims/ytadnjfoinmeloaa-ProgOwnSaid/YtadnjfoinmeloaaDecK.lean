/- Several texts in one: OpDec OpDe2 OpBackL. -/
import Derived.Test.YtadnjfoinmeloaaOpsK
import Derived.Test.YtadnjfoinmeloaaRdK
namespace Go.Proofs.Ytadnjfoinmeloaa

section
/- What Decode is to tell, in plain Lean; the walk of its function. -/
open Go.RowKit
attribute [local go_sem] rowVal

theorem numL_err {bs : List UInt8} {a : Nat} {f : Int} (h : numberL bs a = .error f) : f ≠ 0 := by
  unfold numberL at h
  repeat' split at h
  all_goals first | (injection h with h; omega) | cases h
theorem rNumL_err {bs : List UInt8} {a : Nat} {f : Int} (h : rNumL bs a = .error f) : f ≠ 0 := by
  unfold rNumL at h
  split at h
  · rename_i hn; injection h with h; subst h; exact numL_err hn
  · split at h
    · injection h with h; omega
    · cases h
theorem takeL_err {kd : Nat} {bs : List UInt8} {a : Nat} {f : Int} (h : takeL kd bs a = .error f) : f ≠ 0 := by
  unfold takeL at h
  split at h
  · cases h
  · split at h
    · split at h
      · cases h
      · rename_i hn; injection h with h; subst h; exact numL_err hn
    · split at h
      · cases h
      · rename_i hn; injection h with h; subst h; exact rNumL_err hn
theorem takeL_ge {kd : Nat} {bs : List UInt8} {a : Nat} {n : Int} {a2 : Nat} (h : takeL kd bs a = .ok (n, a2)) : a ≤ a2 := by
  unfold takeL at h
  split at h
  · injection h with h; injection h with h1 h2; omega
  · split at h
    · split at h
      · injection h with h; injection h with h1 h2; omega
      · cases h
    · split at h
      · injection h with h; injection h with h1 h2; omega
      · cases h
def decStep (bs : List UInt8) (a : Nat) : Except Int (Ins × Nat) :=
  match rNumL bs a with
  | .error f => .error f
  | .ok (u, k) =>
    if isOp (u : Int) = false then .error 111
    else match takeL (kindN (u : Int)) bs (a + k) with
      | .error f => .error f
      | .ok (n, a2) => if mayB (kindN (u : Int)) n = false then .error 112 else .ok (⟨(u : Int), n⟩, a2)
def decFrom (bs : List UInt8) : Nat → List Ins → Nat → Except Int (List Ins)
  | 0, _, _ => .error 0
  | n + 1, l, a => if bs.length ≤ a then .ok l else if l.length = 4096 then .error 2 else
    match decStep bs a with
    | .error f => .error f
    | .ok (i, a2) => decFrom bs n (l ++ [i]) a2
theorem ins_info : (Try.prog.info? 52).map (fun i => (i.zero, i.size, i.bytes)) = some (some (.agg #[.int .i64 0, .int .i64 0]), 2, 16) := by kernel_rfl
theorem eIns : Elem Try.prog 48 52 2 16 := elem_of Try.underlying48 ins_info rfl (by decide)
theorem ins_one (l : List Ins) : ∀ u ∈ l.flatMap insCells, u.oneCell' = true := by
  intro u hu
  obtain ⟨x, -, hx⟩ := List.mem_flatMap.1 hu
  simp only [insCells, List.mem_cons, List.not_mem_nil, or_false] at hx
  rcases hx with rfl | rfl <;> rfl
def atOf (w : World) (g : Nat) : Nat := match w.cell? ⟨g, 1, none⟩ with | some (.int _ n) => n.toNat | _ => 0
theorem pc_of {w w' : World} {g pc : Nat} {u : Value} (h : Only (fun b => b = g) w w') (hc : w.cell? ⟨pc, 0, none⟩ = some u) (hf : w.frozen? ⟨pc, 0, none⟩ = false) (hl : pc < w.heap.size) (hn : pc ≠ g) : ∃ u, w'.cell? ⟨pc, 0, none⟩ = some u ∧ w'.frozen? ⟨pc, 0, none⟩ = false :=
  ⟨u, by rw [(ocell h).1 _ _ hl hn]; exact hc, by rw [(ocell h).2 _ _ hl hn]; exact hf⟩
/-- Told whole, or fallen. -/
def Dec1Post (w : World) (g c pc : Nat) (A : Option Addr) (bs : List UInt8) (R : Except Int (List Ins)) (e : Ending) (w' : World) : Prop :=
  Only (fun b => b = g ∨ b = pc) w w' ∧ ((∃ l AC cC, R = .ok l ∧ e = .returned (.tuple #[]) ∧ Rd w' g A c bs bs.length false 0 ∧ w'.cell? ⟨pc, 0, none⟩ = some (.slice AC l.length cC) ∧ w'.frozen? ⟨pc, 0, none⟩ = false ∧ Own w' w.heap.size 52 2 AC l.length cC (l.flatMap insCells)) ∨
    (∃ f at_, f ≠ 0 ∧ R = .error f ∧ e = .panicked [endedE g] ∧ Rd w' g A c bs at_ true f ∧ ∃ u, w'.cell? ⟨pc, 0, none⟩ = some u ∧ w'.frozen? ⟨pc, 0, none⟩ = false))
set_option maxRecDepth 100000 in
set_option maxHeartbeats 2000000 in
theorem dec1_any (g c pc ps po gs go : Nat) (p : Nat → Nat) (A : Option Addr) (bs : List UInt8) (w : World) (hrd : Rd w g A c bs 0 false 0) (hl : bs.length ≤ 140737488351232)
    (hpc : w.cell? ⟨pc, 0, none⟩ = some (.slice none 0 0)) (hpcf : w.frozen? ⟨pc, 0, none⟩ = false) (hps : w.cell? ⟨ps, 0, none⟩ = some (.slice (some ⟨gs, 0, none⟩) 46 46)) (hpo : w.cell? ⟨po, 0, none⟩ = some (.slice (some ⟨go, 0, none⟩) 7 7))
    (htab : TabAt w gs shapeTab) (hops : OpsAt w go p) (n1 : pc ≠ g ∧ ps ≠ g ∧ po ≠ g ∧ gs ≠ g ∧ go ≠ g ∧ (∀ k, 2 ≤ k → k ≤ 6 → p k ≠ g)) (n2 : ps ≠ pc ∧ po ≠ pc ∧ gs ≠ pc ∧ go ≠ pc ∧ (∀ k, 2 ≤ k → k ≤ 6 → p k ≠ pc)) (hA : ∀ b o, A = some ⟨b, o, none⟩ → b ≠ pc ∧ b < w.heap.size)
    (R : Except Int (List Ins)) (hR : R = decFrom bs (bs.length + 1) [] 0) :
    Calls Try.prog 82 #[.pointer (some ⟨g, 0, none⟩), .pointer (some ⟨pc, 0, none⟩), .pointer (some ⟨ps, 0, none⟩), .pointer (some ⟨po, 0, none⟩)] w (Dec1Post w g c pc A bs R) := by
  have hlc : pc < w.heap.size := block_lt_of_cell hpc
  have hls : ps < w.heap.size := block_lt_of_cell hps
  have hlo : po < w.heap.size := block_lt_of_cell hpo
  have hlgs := htab.lt
  have hlgo := hops.row.lt
  have hlp : ∀ k, 2 ≤ k → k ≤ 6 → p k < w.heap.size := fun k h1 h2 => (hops.box k h1 h2).lt
  have Hrd := Lib.hid hrd
  have Htab := Lib.hid htab
  have Hops := Lib.hid hops
  have HR := Lib.hid hR
  clear hrd htab hops hR
  go_enter Try.func82, Try.ntmps82
  go_wp2_with fail
  go_loopw [] (fun wr => ∃ (l : List Ins) (a n : Nat) (AC : Option Addr) (cC : Nat), Rd wr g A c bs a false 0 ∧ wr.cell? ⟨pc, 0, none⟩ = some (.slice AC l.length cC) ∧ wr.frozen? ⟨pc, 0, none⟩ = false ∧ Own wr w.heap.size 52 2 AC l.length cC (l.flatMap insCells) ∧ l.length ≤ 4096 ∧ bs.length - a < n ∧ Hid (R = decFrom bs n l a) ∧ Only (fun b => b = g ∨ b = pc) w wr) (fun wr => bs.length - atOf wr g)
  case atStart => exact ⟨[], 0, bs.length + 1, none, 0, Hrd.out, hpc, hpcf, Own.nil _ _ _ _, by simp, by omega, HR, Only.refl _ _⟩
  case round =>
    rename World => w1
    obtain ⟨l, a, n, AC, cC, hrd, hc, hf, hown, hll, hn, hRk, hO⟩ := hrel
    have hle := hrd.le
    have hz1 := hO.size
    have hc1 := hrd.c1
    have hat : atOf w1 g = a := by unfold atOf; rw [hc1]; simp
    obtain ⟨n', rfl⟩ : ∃ n', n = n' + 1 := ⟨n - 1, by omega⟩
    have hRk2 := hRk.out
    unfold decFrom at hRk2
    have hps1 : w1.cell? ⟨ps, 0, none⟩ = some (.slice (some ⟨gs, 0, none⟩) 46 46) := by rw [(ocell hO).1 _ _ hls (by have := n1.2.1; have := n2.1; omega)]; exact hps
    have hpo1 : w1.cell? ⟨po, 0, none⟩ = some (.slice (some ⟨go, 0, none⟩) 7 7) := by rw [(ocell hO).1 _ _ hlo (by have := n1.2.2.1; have := n2.2.1; omega)]; exact hpo
    have htab1 : TabAt w1 gs shapeTab := (Blk.only (show Blk w gs 100 (tabCells shapeTab).toArray from Htab.out) hO (by have := n1.2.2.2.1; have := n2.2.2.1; omega))
    have hops1 : OpsAt w1 go p := ⟨Hops.out.row.only hO (by have := n1.2.2.2.2.1; have := n2.2.2.2.1; omega), fun k h1 h2 => (Hops.out.box k h1 h2).only hO (by have := n1.2.2.2.2.2 k h1 h2; have := n2.2.2.2.2 k h1 h2; omega)⟩
    have hlf := rLeft_any g c a A bs w1 hrd hl
    have Hlf := Lib.hid hlf
    have Hrd1 := Lib.hid hrd
    have Hown := Lib.hid hown
    have HO1 := Lib.hid hO
    have Htab1 := Lib.hid htab1
    have Hops1 := Lib.hid hops1
    clear hlf hrd hown hO htab1 hops1 hc1
    go_wp2_with fail
    refine Hlf.out.mono ?_
    rintro e w2 ⟨rfl, m, hw2⟩
    have hb12 : Below w1.heap.size w1 w2 := by rw [hw2]; exact below_drewN (Below.refl _ _) m
    have hz2 : w1.heap.size ≤ w2.heap.size := hb12.size
    have kb := fun (q : Nat) (hq : q < w1.heap.size) => (bcell hb12).1 q 0 hq
    have hlc1 : pc < w1.heap.size := by omega
    have hc2 : w2.cell? ⟨pc, 0, none⟩ = some (.slice AC l.length cC) := by rw [kb _ hlc1]; exact hc
    have hlc2 : pc < w2.heap.size := by omega
    have hrd2 := Hrd1.out.below hb12
    have HOX := Lib.hid (Only.of_fresh (S := fun b => b = g) hb12)
    clear Hlf hw2 kb
    by_cases ha : bs.length ≤ a
    · have hz : bs.length - a = 0 := by omega
      obtain rfl : a = bs.length := by omega
      rw [if_pos (Nat.le_refl _)] at hRk2
      have HFin := Lib.hid (show Dec1Post w g c pc A bs R (.returned (.tuple #[])) w2 from ⟨HO1.out.trans (HOX.out.mono fun _ _ e => .inl e), .inl ⟨l, AC, cC, hRk2, rfl, hrd2, hc2, by rw [(bcell hb12).2 _ _ hlc1]; exact hf, Own.below Hown.out hb12 (Nat.le_refl _)⟩⟩)
      clear hRk2 hrd2 hb12 hRk
      rw [hz]
      go_wp2_with fail
      go_end0
      exact HFin.out
    rw [if_neg ha] at hRk2
    have hpos : (0 : Int) < ((bs.length - a : Nat) : Int) := by omega
    have Hrd2 := Lib.hid hrd2
    clear hrd2 hRk
    by_cases hfull : l.length = 4096
    · rw [if_pos hfull] at hRk2
      have HRf := Lib.hid hRk2
      have hff : (2 : Int) ≠ 0 := by decide
      have hfi : (l.length : Int) = 4096 := by omega
      have HFL := Lib.hid (fail_any g c a A bs 2 hff w2 Hrd2.out)
      clear hRk2
      go_wp2_with fail
      refine HFL.out.mono ?_
      rintro e wf ⟨rfl, ⟨atf, hrdf⟩, hof⟩
      have HFin := Lib.hid (show Dec1Post w g c pc A bs R (.panicked [endedE g]) wf from ⟨(HO1.out.trans (HOX.out.trans hof |>.mono fun _ _ e => .inl e)), .inr ⟨_, atf, hff, HRf.out, rfl, hrdf, pc_of (HOX.out.trans hof) hc hf hlc1 n1.1⟩⟩)
      clear hrdf hof HFL
      go_wp2_with fail
      exact ⟨rfl, HFin.out⟩
    rw [if_neg hfull] at hRk2
    have hfi : ¬ (l.length : Int) = 4096 := by omega
    have hnum := rNum_any g c a A bs w2 Hrd2.out hl
    cases hr : rNumL bs a with
    | error f2 =>
      rw [hr] at hnum
      dsimp only at hnum
      have hds : decStep bs a = .error f2 := by unfold decStep; rw [hr]
      rw [hds] at hRk2
      have HRf := Lib.hid hRk2
      have hff := rNumL_err hr
      have HFL := Lib.hid hnum
      clear hRk2 hnum hr hds
      go_wp2_with fail
      refine HFL.out.mono ?_
      rintro e wf ⟨rfl, ⟨atf, hrdf⟩, hof⟩
      have HFin := Lib.hid (show Dec1Post w g c pc A bs R (.panicked [endedE g]) wf from ⟨(HO1.out.trans (HOX.out.trans hof |>.mono fun _ _ e => .inl e)), .inr ⟨_, atf, hff, HRf.out, rfl, hrdf, pc_of (HOX.out.trans hof) hc hf hlc1 n1.1⟩⟩)
      clear hrdf hof HFL
      go_wp2_with fail
      exact ⟨rfl, HFin.out⟩
    | ok q =>
      obtain ⟨u, k2⟩ := q
      rw [hr] at hnum
      dsimp only at hnum
      have hlt := rNum_lt hr
      have Hnum := Lib.hid hnum
      have Hr := Lib.hid hr
      have HRk2 := Lib.hid hRk2
      clear hnum hr hRk2
      go_wp2_with fail
      refine Hnum.out.mono ?_
      rintro e w3 ⟨rfl, hrd3, ho3⟩
      have hz3 := ho3.size
      have HO13 := Lib.hid (HOX.out.trans ho3)
      have Hrd3 := Lib.hid hrd3
      have hps3 : w3.cell? ⟨ps, 0, none⟩ = some (.slice (some ⟨gs, 0, none⟩) 46 46) := by rw [(ocell HO13.out).1 _ _ (by omega) n1.2.1]; exact hps1
      have hls3 : ps < w3.heap.size := by omega
      have hpo3 : w3.cell? ⟨po, 0, none⟩ = some (.slice (some ⟨go, 0, none⟩) 7 7) := by rw [(ocell HO13.out).1 _ _ (by omega) n1.2.2.1]; exact hpo1
      have hlo3 : po < w3.heap.size := by omega
      clear hrd3 ho3 Hnum HOX hb12
      go_wp2_with fail
      obtain ⟨w5, hw5⟩ : ∃ w5, w5 = w3.alloc (.cells #[.int .i64 (u : Int), .int .i64 0] 52) := ⟨_, rfl⟩
      rw [← hw5]
      have hb35 : Below w3.heap.size w3 w5 := by rw [hw5]; exact (Below.refl _ _).alloc (Nat.le_refl _) _
      have hX5 : Blk w5 w3.heap.size 52 #[.int .i64 (u : Int), .int .i64 0] := by rw [hw5]; exact Blk.new _ _ _
      have htab3 : TabAt w3 gs shapeTab := (Blk.only (show Blk w1 gs 100 (tabCells shapeTab).toArray from Htab1.out) HO13.out (by have := n1.2.2.2.1; omega))
      have hops3 : OpsAt w3 go p := ⟨Hops1.out.row.only HO13.out (by have := n1.2.2.2.2.1; omega), fun k h1 h2 => (Hops1.out.box k h1 h2).only HO13.out (by have := n1.2.2.2.2.2 k h1 h2; omega)⟩
      have hrow := row_any gs 46 (u : Int) w5 shapeTab rfl (by omega) (htab3.below hb35)
      obtain ⟨rv, hrv⟩ : ∃ rv, rv = (rowAt shapeTab (u : Int)).1 := ⟨_, rfl⟩
      rw [← hrv, show (rowAt shapeTab (u : Int)).2 = isOp (u : Int) from rfl] at hrow
      have Hrv := Lib.hid hrv
      have Hrow := Lib.hid hrow
      have Hb35 := Lib.hid hb35
      have HX5 := Lib.hid hX5
      have Hops3 := Lib.hid hops3
      have hz5 := hX5.lt
      clear hrow hw5 hb35 hX5 hops3 htab3 hrv
      refine Hrow.out.mono ?_
      rintro e w6 ⟨rfl, hb56⟩
      have hX6 := HX5.out.below hb56 hz5
      have hz6 := hX6.lt
      have Hb36 := Lib.hid (Hb35.out.trans (hb56.mono (by omega)))
      have HX6 := Lib.hid hX6
      have hpo6 : w6.cell? ⟨po, 0, none⟩ = some (.slice (some ⟨go, 0, none⟩) 7 7) := by rw [(bcell Hb36.out).1 _ _ hlo3]; exact hpo3
      have hlo6 : po < w6.heap.size := by have := Hb36.out.size; omega
      have x0 : w6.cell? ⟨w3.heap.size, 0, none⟩ = some (.int .i64 (u : Int)) := hX6.cell 0
      clear hb56 hX6 Hrow HX5 Hb35
      have hu0 : (0 : Int) ≤ (u : Int) := by omega
      obtain ⟨nm, q1, q2, q3⟩ := rv
      cases hop : isOp (u : Int) with
      | false =>
        have hds : decStep bs a = .error 111 := by unfold decStep; rw [Hr.out]; dsimp only; rw [if_pos hop]
        have HRf : Hid (R = .error 111) := Lib.hid (by rw [HRk2.out, hds])
        have hff : (111 : Int) ≠ 0 := by decide
        obtain ⟨w7, hw7⟩ : ∃ w7, w7 = w6.alloc (.cells #[.string ⟨nm.toArray⟩, .int .i64 q1, .int .i64 q2, .int .i64 q3] 100) := ⟨_, rfl⟩
        have hb67 : Below w6.heap.size w6 w7 := by rw [hw7]; exact (Below.refl _ _).alloc (Nat.le_refl _) _
        have hS7 : Blk w7 w6.heap.size 100 #[.string ⟨nm.toArray⟩, .int .i64 q1, .int .i64 q2, .int .i64 q3] := by rw [hw7]; exact Blk.new _ _ _
        have hz67 := hb67.size
        have hz36 := Hb36.out.size
        have hb37 : Below w3.heap.size w3 w7 := Hb36.out.trans (hb67.mono (by omega))
        have hrd7 := Hrd3.out.below hb37
        have hX7 := HX6.out.below hb67 hz6
        have x0' : w7.cell? ⟨w3.heap.size, 0, none⟩ = some (.int .i64 (u : Int)) := hX7.cell 0
        have hxl7 := hX7.lt
        have Hrd7 := Lib.hid hrd7
        have HX7 := Lib.hid hX7
        have Hb37 := Lib.hid hb37
        have HO17 := Lib.hid (HO13.out.trans (Only.of_fresh (S := fun b => b = g) hb37))
        clear hrd7 hX7 hb37 hb67 HX6 Hb36 Hrd3 Hrd2 x0
        have HFL := Lib.hid (fail_any g c (a + k2) A bs 111 hff w7 Hrd7.out)
        clear hds HRk2
        rw [hw7] at HFL
        have Hw7 := Lib.hid hw7
        clear hw7
        go_wp2_with fail
        refine HFL.out.mono ?_
        rintro e wf ⟨rfl, ⟨atf, hrdf⟩, hof⟩
        rw [← Hw7.out] at hof
        have HFin := Lib.hid (show Dec1Post w g c pc A bs R (.panicked [endedE g]) wf from ⟨(HO1.out.trans (HO17.out.trans hof |>.mono fun _ _ e => .inl e)), .inr ⟨_, atf, hff, HRf.out, rfl, hrdf, pc_of (HO17.out.trans hof) hc hf hlc1 n1.1⟩⟩)
        clear hrdf hof HFL
        go_wp2_with fail
        exact ⟨rfl, HFin.out⟩
      | true =>
        obtain ⟨nn, hnn, hn46, r, hr1, hr2, hkd, hk6⟩ := isOp_row hop
        rw [← Hrv.out] at hr2
        subst hr2
        obtain ⟨kd, hkde⟩ : ∃ kd, kd = kindN (u : Int) := ⟨_, rfl⟩
        rw [← hkde] at hkd hk6
        have Hkde := Lib.hid hkde
        clear hkde
        dsimp only at hkd
        subst hkd
        have hge : (0 : Int) ≤ (kd : Int) := by omega
        have hl7 : (kd : Int) < 7 := by omega
        go_wp2_with (refine wpList_at 34 rfl ?_; refine wp_stop ?_)
        refine ⟨?_⟩
        obtain ⟨w7, hw7⟩ : ∃ w7, w7 = w6.alloc (.cells #[.string ⟨nm.toArray⟩, .int .i64 (kd : Int), .int .i64 q2, .int .i64 q3] 100) := ⟨_, rfl⟩
        rw [← hw7]
        have hb67 : Below w6.heap.size w6 w7 := by rw [hw7]; exact (Below.refl _ _).alloc (Nat.le_refl _) _
        have hS7 : Blk w7 w6.heap.size 100 #[.string ⟨nm.toArray⟩, .int .i64 (kd : Int), .int .i64 q2, .int .i64 q3] := by rw [hw7]; exact Blk.new _ _ _
        have hz67 := hb67.size
        have hz36 := Hb36.out.size
        have hb37 : Below w3.heap.size w3 w7 := Hb36.out.trans (hb67.mono (by omega))
        have hrd7 := Hrd3.out.below hb37
        have hX7 := HX6.out.below hb67 hz6
        have x0' : w7.cell? ⟨w3.heap.size, 0, none⟩ = some (.int .i64 (u : Int)) := hX7.cell 0
        have hxl7 := hX7.lt
        have Hrd7 := Lib.hid hrd7
        have HX7 := Lib.hid hX7
        have Hb37 := Lib.hid hb37
        have HO17 := Lib.hid (HO13.out.trans (Only.of_fresh (S := fun b => b = g) hb37))
        clear hrd7 hX7 hb37 hw7 hb67 HX6 Hb36 Hrd3 Hrd2 x0
        obtain ⟨mf, mc, pf, tf, hK⟩ := kind_at p kd hk6
        have hops7 : OpsAt w7 go p := ⟨Hops3.out.row.below Hb37.out (by have := HO13.out.size; omega), fun k h1 h2 => (Hops3.out.box k h1 h2).below Hb37.out (by have := HO13.out.size; have := hlp k h1 h2; omega)⟩
        have hpo3x : w7.cell? ⟨po, 0, none⟩ = some (.slice (some ⟨go, 0, none⟩) 7 7) := by rw [(ocell HO17.out).1 _ _ (by omega) n1.2.2.1]; exact hpo1
        have s1 : w7.cell? ⟨w6.heap.size, 1, none⟩ = some (.int .i64 (kd : Int)) := hS7.cell 1
        have hsl7 := hS7.lt
        have y0 : w7.cell? ⟨go, kd * 3, none⟩ = some (.func (.func mf) #[] mc) := by rw [hops7.row.at_]; exact hK.m0
        have y1 : w7.cell? ⟨go, kd * 3 + 1, none⟩ = some (.func (.func pf) #[] #[]) := by rw [hops7.row.at_]; exact hK.m1
        have y2 : w7.cell? ⟨go, kd * 3 + 2, none⟩ = some (.func (.func tf) #[] #[]) := by rw [hops7.row.at_]; exact hK.m2
        have hgl7 := hops7.row.lt
        have hlo7 : po < w7.heap.size := by have := HO17.out.size; omega
        have hcm := hK.cm
        have hct := hK.ct
        have HK := Lib.hid hK
        have Hops7 := Lib.hid hops7
        clear hops7 hK Hops3
        go_wp2_with (refine wpList_atStore 107 (.tmp 8) (.tmp 35) rfl ?_; refine wp_stop ?_)
        refine ⟨?_⟩
        refine wpList_storeB rfl 107 (.tmp 8) (.tmp 35) rfl [.func (.func mf) #[] mc, .func (.func pf) #[] #[], .func (.func tf) #[] #[]] rfl rfl (Blk.new w7 107 #[.nilFunc, .nilFunc, .nilFunc]) size_operand rfl (by intro v hv; simp only [List.mem_cons, List.not_mem_nil, or_false] at hv; rcases hv with rfl | rfl | rfl <;> rfl) ?_
        intro w8 hP8 hO8 hz8
        have hb78 : Below w7.heap.size w7 w8 := ((Below.refl _ _).alloc (Nat.le_refl _) _).trans ((hO8.below (B := w7.heap.size) (by simp) fun q hq e => by omega))
        have z0 : w8.cell? ⟨w7.heap.size, 0, none⟩ = some (.func (.func mf) #[] mc) := hP8.cell 0
        have z2 : w8.cell? ⟨w7.heap.size, 2, none⟩ = some (.func (.func tf) #[] #[]) := hP8.cell 2
        have hzl8 := hP8.lt
        have hrd8 := Hrd7.out.below hb78
        have hX8 := HX7.out.below hb78 hxl7
        have hops8 : OpsAt w8 go p := ⟨Hops7.out.row.below hb78 hgl7, fun k h1 h2 => (Hops7.out.box k h1 h2).below hb78 (by have := hlp k h1 h2; have := HO17.out.size; omega)⟩
        have htk := HK.out.take w8 g c (a + k2) A bs hrd8 hl
        have HO18 := Lib.hid (HO17.out.trans (Only.of_fresh (S := fun b => b = g) hb78))
        have HP8 := Lib.hid hP8
        have HX8 := Lib.hid hX8
        have Hops8 := Lib.hid hops8
        have hxl8 := hX8.lt
        unfold TakePost at htk
        cases htl : takeL kd bs (a + k2) with
        | error f2 =>
          rw [htl] at htk
          dsimp only at htk
          have hds : decStep bs a = .error f2 := by unfold decStep; rw [Hr.out]; dsimp only; rw [if_neg (by rw [hop]; decide), ← Hkde.out, htl]
          have HRf : Hid (R = .error f2) := Lib.hid (by rw [HRk2.out, hds])
          have hff := takeL_err htl
          have HFL := Lib.hid htk
          clear hP8 hO8 hz8 hb78 hops8 hX8 hrd8 htk x0' y0 y1 y2 Hops7 HRk2 hds htl z0
          go_wp2_with fail
          refine HFL.out.mono ?_
          rintro e wf ⟨rfl, ⟨atf, hrdf⟩, hof⟩
          have HFin := Lib.hid (show Dec1Post w g c pc A bs R (.panicked [endedE g]) wf from ⟨(HO1.out.trans (HO18.out.trans hof |>.mono fun _ _ e => .inl e)), .inr ⟨_, atf, hff, HRf.out, rfl, hrdf, pc_of (HO18.out.trans hof) hc hf hlc1 n1.1⟩⟩)
          clear hrdf hof HFL
          go_wp2_with fail
          exact ⟨rfl, HFin.out⟩
        | ok q =>
          obtain ⟨n, a2⟩ := q
          rw [htl] at htk
          dsimp only at htk
          have hge2 := takeL_ge htl
          have Htl := Lib.hid htl
          have Htk := Lib.hid htk
          clear hP8 hO8 hz8 hb78 hops8 hX8 hrd8 htk x0' y0 y1 y2 Hops7 htl z0
          go_wp2_with fail
          refine Htk.out.mono ?_
          rintro e w9 ⟨rfl, hrd9, ho9⟩
          have hz89 := ho9.size
          have hgx : w3.heap.size ≠ g := by have := Hrd.out.blk.lt; have := HO13.out.size; omega
          have hgz : w7.heap.size ≠ g := by have := Hrd.out.blk.lt; have := HO17.out.size; omega
          have hX9 := HX8.out.only ho9 hgx
          have hP9 := HP8.out.only ho9 hgz
          have hxl9 := hX9.lt
          have f1 : w9.frozen? ⟨w3.heap.size, 1, none⟩ = false := hX9.frozen 1
          have x1 : w9.cell? ⟨w3.heap.size, 1, none⟩ = some (.int .i64 0) := hX9.cell 1
          obtain ⟨w10, hw10⟩ : ∃ w10, w10 = w9.setCell ⟨w3.heap.size, 1, none⟩ (.int .i64 n) := ⟨_, rfl⟩
          have hX10 : Blk w10 w3.heap.size 52 #[.int .i64 (u : Int), .int .i64 n] := by rw [hw10]; exact hX9.setL (cs := [.int .i64 (u : Int), .int .i64 0]) 1 _
          have hO910 : Only (fun b => b = w3.heap.size) w9 w10 := by rw [hw10]; exact Only.setCell (S := fun b => b = w3.heap.size) (p := ⟨w3.heap.size, 1, none⟩) (Only.refl _ w9) (.inl rfl) _
          have hz10 : w9.heap.size ≤ w10.heap.size := hO910.size
          have hrd10 := hrd9.only hO910 (by omega) (fun b o e h => by have := (hA b o e).2; omega)
          have hP10 := hP9.only hO910 (by omega)
          have z0 : w10.cell? ⟨w7.heap.size, 0, none⟩ = some (.func (.func mf) #[] mc) := hP10.cell 0
          have hzl10 := hP10.lt
          have x1' : w10.cell? ⟨w3.heap.size, 1, none⟩ = some (.int .i64 n) := hX10.cell 1
          have hops10 : OpsAt w10 go p := ⟨(Hops8.out.row.only ho9 (by have := n1.2.2.2.2.1; omega)).only hO910 (by omega), fun k h1 h2 => ((Hops8.out.box k h1 h2).only ho9 (by have := n1.2.2.2.2.2 k h1 h2; omega)).only hO910 (by have := hlp k h1 h2; omega)⟩
          have hmay := HK.out.may n w10 go hops10
          have HO110 := Lib.hid (show Only (fun b => b = g) w1 w10 from (HO18.out.trans ho9).more hO910 fun b hb h => by omega)
          have hc10 : w10.cell? ⟨pc, 0, none⟩ = some (.slice AC l.length cC) := by rw [(ocell HO110.out).1 _ _ hlc1 n1.1]; exact hc
          have hcf10 : w10.frozen? ⟨pc, 0, none⟩ = false := by rw [(ocell HO110.out).2 _ _ hlc1 n1.1]; exact hf
          have hlc10 : pc < w10.heap.size := by omega
          have hown10 := Hown.out.only HO110.out (fun b o e h => by have := (Hown.out.lt b o e).1; have := Hrd.out.blk.lt; omega)
          have Hmay := Lib.hid hmay
          have Hrd10 := Lib.hid hrd10
          have Hown10 := Lib.hid hown10
          have HX10 := Lib.hid hX10
          clear hmay hrd10 hown10 hX10 hops10 hP10 hX9 hP9 hO910 hrd9 ho9
          rw [hw10] at z0 x1' hc10 hcf10 Hmay hlc10 hzl10
          have Hw10 := Lib.hid hw10
          clear hw10
          go_wp2_with fail
          refine Hmay.out.mono ?_
          rintro e wm ⟨rfl, rfl⟩
          rw [← Hw10.out] at z0 x1' hc10 hcf10 hlc10 hzl10 ⊢
          clear Hmay
          cases hmb : mayB kd n with
          | false =>
            have hds : decStep bs a = .error 112 := by unfold decStep; rw [Hr.out]; dsimp only; rw [if_neg (by rw [hop]; decide), ← Hkde.out, Htl.out]; dsimp only; rw [if_pos hmb]
            have HRf : Hid (R = .error 112) := Lib.hid (by rw [HRk2.out, hds])
            have hff : (112 : Int) ≠ 0 := by decide
            have HFL := Lib.hid (fail_any g c a2 A bs 112 hff w10 Hrd10.out)
            clear hds HRk2
            go_wp2_with fail
            refine HFL.out.mono ?_
            rintro e wf ⟨rfl, ⟨atf, hrdf⟩, hof⟩
            have HFin := Lib.hid (show Dec1Post w g c pc A bs R (.panicked [endedE g]) wf from ⟨(HO1.out.trans (HO110.out.trans hof |>.mono fun _ _ e => .inl e)), .inr ⟨_, atf, hff, HRf.out, rfl, hrdf, pc_of (HO110.out.trans hof) hc hf hlc1 n1.1⟩⟩)
            clear hrdf hof HFL
            go_wp2_with fail
            exact ⟨rfl, HFin.out⟩
          | true =>
            have hds : decStep bs a = .ok (⟨(u : Int), n⟩, a2) := by unfold decStep; rw [Hr.out]; dsimp only; rw [if_neg (by rw [hop]; decide), ← Hkde.out, Htl.out]; dsimp only; rw [if_neg (by rw [hmb]; decide)]
            have HRn : Hid (R = decFrom bs n' (l ++ [⟨(u : Int), n⟩]) a2) := Lib.hid (by rw [HRk2.out, hds])
            have x0' : w10.cell? ⟨w3.heap.size, 0, none⟩ = some (.int .i64 (u : Int)) := HX10.out.cell 0
            have hxl10 := HX10.out.lt
            clear hds HRk2
            go_wp2_with (refine wpList_at 52 rfl ?_; refine wp_stop ?_)
            refine ⟨?_⟩
            obtain ⟨w11, hw11⟩ : ∃ w11, w11 = w10.alloc (.cells #[.int .i64 (u : Int), .int .i64 n] 52) := ⟨_, rfl⟩
            rw [← hw11]
            have hb1011 : Below w10.heap.size w10 w11 := by rw [hw11]; exact (Below.refl _ _).alloc (Nat.le_refl _) _
            have hU11 : Blk w11 w10.heap.size 52 #[.int .i64 (u : Int), .int .i64 n] := by rw [hw11]; exact Blk.new _ _ _
            have hown11 := Own.below Hown10.out hb1011 (Nat.le_refl _)
            have hz1011 := hb1011.size
            refine wpList_app rfl (.tmp 49) (.tmp 51) eIns rfl rfl hown11 (m := 1) (us := [.int .i64 (u : Int), .int .i64 n]) rfl (RV.of_blk hU11) rfl (by intro v hv; simp only [List.mem_cons, List.not_mem_nil, or_false] at hv; rcases hv with rfl | rfl <;> rfl) (by unfold maxLen; omega) (by omega) (by omega) (by intro h; cases h) ?_
            intro AD cD w12 hown12 hg12 hAD
            have hb1112 : Below w.heap.size w11 w12 := (Below.refl _ _).grown hg12 (by omega) fun q hq => (Own.row Hown10.out q hq).1
            have hacell : ∀ b, w.heap.size ≤ b → b < w1.heap.size → AC.map (·.block) ≠ some b → True := fun _ _ _ _ => trivial
            have hO1012 : Only (fun b => some b = AC.map (·.block)) w10 w12 := (Only.of_fresh (S := fun b => some b = AC.map (·.block)) hb1011).trans (Only.of_grown (S := fun b => some b = AC.map (·.block)) hg12 fun k e => e.symm)
            have hz12 := hO1012.size
            have hAC : ∀ b, some b = AC.map (·.block) → w.heap.size ≤ b ∧ b < w1.heap.size := fun b h => Own.row Hown.out b h.symm
            have hgl := Hrd.out.blk.lt
            have hrd12 := Hrd10.out.only hO1012 (fun h => by have := (hAC _ h).1; omega) (fun b o e h => by have := (hAC _ h).1; have := (hA b o e).2; omega)
            have hc12 : w12.cell? ⟨pc, 0, none⟩ = some (.slice AC l.length cC) := by rw [(ocell hO1012).1 _ _ (by omega) (fun h => by have := (hAC _ h).1; omega)]; exact hc10
            have hcf12 : w12.frozen? ⟨pc, 0, none⟩ = false := by rw [(ocell hO1012).2 _ _ (by omega) (fun h => by have := (hAC _ h).1; omega)]; exact hcf10
            have hlc12 : pc < w12.heap.size := by omega
            have hO112 : Only (fun b => b = g ∨ b = pc) w w12 := (HO1.out.trans ((HO110.out).mono fun _ _ e => .inl e)).more hO1012 fun b hb h => by have := (hAC _ h).1; omega
            obtain ⟨w13, hw13⟩ : ∃ w13, w13 = w12.setCell ⟨pc, 0, none⟩ (.slice AD (l.length + 1) cD) := ⟨_, rfl⟩
            have hO13' : Only (fun b => b = pc) w12 w13 := by rw [hw13]; exact Only.setCell (S := fun b => b = pc) (p := ⟨pc, 0, none⟩) (Only.refl _ w12) (.inl rfl) _
            have hc13 : w13.cell? ⟨pc, 0, none⟩ = some (.slice AD (l.length + 1) cD) := by rw [hw13]; exact World.cell?_setCell_same' _ _ _ (by rw [hc12]; rfl)
            have hcf13 : w13.frozen? ⟨pc, 0, none⟩ = false := by rw [hw13, World.frozen?_setCell]; exact hcf12
            have hrd13 := hrd12.only hO13' (by omega) (fun b o e => (hA b o e).1)
            have hown13 := Own.only hown12 hO13' (fun b o e h => by have := (Own.lt hown12 b o e).1; omega)
            have hat13 : atOf w13 g = a2 := by unfold atOf; rw [hrd13.c1]; simp
            have Hrel := Lib.hid (show ∃ (l' : List Ins) (a n : Nat) (AC : Option Addr) (cC : Nat), Rd w13 g A c bs a false 0 ∧ w13.cell? ⟨pc, 0, none⟩ = some (.slice AC l'.length cC) ∧ w13.frozen? ⟨pc, 0, none⟩ = false ∧ Own w13 w.heap.size 52 2 AC l'.length cC (l'.flatMap insCells) ∧ l'.length ≤ 4096 ∧ bs.length - a < n ∧ Hid (R = decFrom bs n l' a) ∧ Only (fun b => b = g ∨ b = pc) w w13 from
              ⟨l ++ [⟨(u : Int), n⟩], a2, n', AD, cD, hrd13, by rw [List.length_append]; exact hc13, hcf13, by rw [List.length_append, List.flatMap_append]; exact hown13, by rw [List.length_append]; simp; omega, by omega, HRn, hO112.trans (hO13'.mono fun _ _ e => .inr e)⟩)
            rw [hw13] at Hrel hat13
            clear hw13 hc13 hcf13 hrd13 hown13 hO13' hO112 hrd12 hO1012 hb1112 hacell hown12 hg12 hAD hU11 hb1011 hown11
            go_wp2_with fail
            exact ⟨Hrel.out, by omega⟩
end

section
/- The walk of op's Decode. -/
open Go.RowKit
attribute [local go_sem] rowVal

def decR : Except Int (List Ins) → List Ins × Int
  | .ok l => (l, 0)
  | .error f => ([], f)
def decL (bs : List UInt8) : List Ins × Int := if 40960 < bs.length then ([], 2) else decR (decFrom bs (bs.length + 1) [] 0)
def DecPost (w : World) (r : List Ins × Int) (e : Ending) (w' : World) : Prop :=
  ∃ A2 c2, e = .returned (.tuple #[.slice A2 r.1.length c2, .int .i64 r.2]) ∧ Own w' w.heap.size 52 2 A2 r.1.length c2 (r.1.flatMap insCells) ∧ Below w.heap.size w w'
set_option maxRecDepth 100000 in
set_option maxHeartbeats 2000000 in
theorem decode_any (A : Option Addr) (c : Nat) (bs : List UInt8) (w : World) (hS : Sl w ⟨A, c, bs⟩) (hl : bs.length ≤ 200000000000000) :
    Calls Try.prog 67 #[.slice A bs.length c] w (DecPost w (decL bs)) := by
  have hmf : ∀ (fn : Fn) (first cap : Array Value) (w : World), (Instr.makeFunc fn first cap).run Try.prog w = .ok (.func fn first cap) w := fun _ _ _ _ => rfl
  have HS := Lib.hid hS
  clear hS
  by_cases hbig : 40960 < bs.length
  · have g1 : (40960 : Int) < (bs.length : Int) := by omega
    have e : decL bs = ([], 2) := by unfold decL; rw [if_pos hbig]
    rw [e]
    go_enter Try.func67, Try.ntmps67
    go_wp2_with fail
    refine bodyPost_ret (v := .tuple #[.slice none 0 0, .int .i64 2]) ?_ rfl ⟨none, 0, rfl, Own.nil _ _ _ _, (Below.refl _ _).alloc (Nat.le_refl _) _⟩
    simp [results, Try.results67, go_sem]
  have g1 : ¬ (40960 : Int) < (bs.length : Int) := by omega
  have hl : bs.length ≤ 140737488351232 := by omega
  obtain ⟨R, hRe⟩ : ∃ R, R = decFrom bs (bs.length + 1) [] 0 := ⟨_, rfl⟩
  have e : decL bs = decR R := by unfold decL; rw [if_neg hbig, hRe]
  rw [e]
  have HRe := Lib.hid hRe
  clear e hRe
  go_enter Try.func67, Try.ntmps67
  go_wp2_with fail
  refine (operands_any _).mono ?_
  rintro e w2 ⟨go, p, rfl, hops, hgo, hpk, hb2⟩
  rw [World.size_alloc] at hgo hpk
  have hbw2 : Below w.heap.size w w2 := ((Below.refl _ _).alloc (Nat.le_refl _) _).trans (hb2.mono (by simp))
  have hBc2 : Blk w2 w.heap.size 48 #[.slice none 0 0] := (Blk.new w _ _).below hb2 (by simp)
  have hz2 : w.heap.size + 1 ≤ w2.heap.size := by have := hb2.size; simpa using this
  have Hops := Lib.hid hops
  have Hbw2 := Lib.hid hbw2
  have HBc2 := Lib.hid hBc2
  clear hb2 hops hbw2 hBc2
  go_wp2_with fail
  refine (shapes_any w2).mono ?_
  rintro e w3 ⟨gs, rfl, hgs, htab, hb3⟩
  have htab : TabAt w3 gs shapeTab := htab
  have hz3 := hb3.size
  have hops3 : OpsAt w3 go p := ⟨Hops.out.row.below hb3 Hops.out.row.lt, fun k h1 h2 => (Hops.out.box k h1 h2).below hb3 (Hops.out.box k h1 h2).lt⟩
  have hBc3 := HBc2.out.below hb3 (by omega)
  have Hb3 := Lib.hid (Hbw2.out.trans (hb3.mono (by omega)))
  have hgsl := htab.lt
  have hgol := hops3.row.lt
  have hpl : ∀ k, 2 ≤ k → k ≤ 6 → p k < w3.heap.size := fun k h1 h2 => (hops3.box k h1 h2).lt
  have Hops3 := Lib.hid hops3
  have Htab3 := Lib.hid htab
  have HBc3 := Lib.hid hBc3
  clear htab hops3 hBc3 hb3 Hops HBc2 Hbw2
  go_wp2_with (refine wpList_at 12 rfl ?_; refine wp_stop ?_)
  refine ⟨?_⟩
  obtain ⟨w4, hw4⟩ : ∃ w4, w4 = (w3.alloc (.cells #[.slice (some ⟨go, 0, none⟩) 7 7] 95)).alloc (.cells #[.slice (some ⟨gs, 0, none⟩) 46 46] 97) := ⟨_, rfl⟩
  rw [← hw4]
  have hb34 : Below w3.heap.size w3 w4 := by rw [hw4]; exact ((Below.refl _ _).alloc (Nat.le_refl _) _).alloc (by simp) _
  have hPO4 : Blk w4 w3.heap.size 95 #[.slice (some ⟨go, 0, none⟩) 7 7] := by rw [hw4]; exact (Blk.new w3 _ _).alloc _
  have hPS4 : Blk w4 (w3.heap.size + 1) 97 #[.slice (some ⟨gs, 0, none⟩) 46 46] := by
    rw [hw4]
    have h := Blk.new (w3.alloc (.cells #[.slice (some ⟨go, 0, none⟩) 7 7] 95)) 97 #[.slice (some ⟨gs, 0, none⟩) 46 46]
    rw [World.size_alloc] at h
    exact h
  have hPC4 := HBc3.out.below hb34 (by omega)
  have hops4 : OpsAt w4 go p := ⟨Hops3.out.row.below hb34 hgol, fun k h1 h2 => (Hops3.out.box k h1 h2).below hb34 (hpl k h1 h2)⟩
  have htab4 : TabAt w4 gs shapeTab := (show Blk w3 gs 100 (tabCells shapeTab).toArray from Htab3.out).below hb34 hgsl
  have hz4 : w3.heap.size + 2 ≤ w4.heap.size := by have := hPS4.lt; omega
  have hbw4 : Below w.heap.size w w4 := Hb3.out.trans (hb34.mono (by omega))
  have hSl4 := HS.out.below hbw4
  have hread := read_any ⟨A, c, bs⟩ w4 hSl4 hl 82 #[] #[.pointer (some ⟨w.heap.size, 0, none⟩), .pointer (some ⟨w3.heap.size + 1, 0, none⟩), .pointer (some ⟨w3.heap.size, 0, none⟩)] (fun b => b = w.heap.size)
    (fun g at_ o f wx => (∃ l AC cC base, R = .ok l ∧ f = 0 ∧ at_ = bs.length ∧ w4.heap.size < base ∧ g < base ∧ wx.cell? ⟨w.heap.size, 0, none⟩ = some (.slice AC l.length cC) ∧ wx.frozen? ⟨w.heap.size, 0, none⟩ = false ∧ Own wx base 52 2 AC l.length cC (l.flatMap insCells) ∧ w.heap.size < wx.heap.size) ∨ (f ≠ 0 ∧ R = .error f ∧ ∃ u, wx.cell? ⟨w.heap.size, 0, none⟩ = some u ∧ wx.frozen? ⟨w.heap.size, 0, none⟩ = false ∧ w.heap.size < wx.heap.size))
    (fun g wx => by go_simp)
    (fun g cg Ag wx hg hbx hrd hA => by
      have hzx := hbx.size
      have hglx := hrd.blk.lt
      refine (dec1_any g cg w.heap.size (w3.heap.size + 1) w3.heap.size gs go p Ag bs wx hrd hl ((hPC4.below hbx (by omega)).cell 0) ((hPC4.below hbx (by omega)).frozen 0) ((hPS4.below hbx (by omega)).cell 0) ((hPO4.below hbx (by omega)).cell 0) ((show Blk w4 gs 100 (tabCells shapeTab).toArray from htab4).below hbx (by omega)) ⟨hops4.row.below hbx (by omega), fun k h1 h2 => (hops4.box k h1 h2).below hbx (by have := hpl k h1 h2; omega)⟩ ⟨by omega, by omega, by omega, by omega, by omega, fun k h1 h2 => by have := hpl k h1 h2; omega⟩ ⟨by omega, by omega, by omega, by omega, fun k h1 h2 => by have := hpk k h1 h2; omega⟩ (fun b o e => by have := hA b o e; omega) R HRe.out).mono ?_
      rintro e wy ⟨hO, h⟩
      have hzy := hO.size
      rcases h with ⟨l, AC, cC, hRl, rfl, hrd2, hc2, hf2, hown2⟩ | ⟨f, at_, hf, hRf, rfl, hrd2, u, hu1, hu2⟩
      · exact ⟨bs.length, false, 0, hrd2, .inl ⟨l, AC, cC, wx.heap.size, hRl, rfl, rfl, by omega, hglx, hc2, hf2, hown2, by omega⟩, hO, .inl rfl⟩
      · exact ⟨at_, true, f, hrd2, .inr ⟨hf, hRf, u, hu1, hu2, by omega⟩, hO, .inr ⟨rfl, hf⟩⟩)
    (fun b hb => by omega)
  dsimp only at hread
  have Hread := Lib.hid hread
  have Hb4 := Lib.hid hbw4
  clear hread hbw4 hb34 hPO4 hPS4 hPC4 hops4 htab4 hSl4 hw4
  go_wp2_with fail
  refine Hread.out.mono ?_
  rintro e w5 ⟨g, at_, o, f, wy, hgg, hT, rfl, hO1, hO2⟩
  have hz5 := hO1.size
  have hB5 : Below w.heap.size w w5 := Hb4.out.trans (hO2.below (by omega) fun q hq e => by omega)
  have key : ∀ u, wy.cell? ⟨w.heap.size, 0, none⟩ = some u → w.heap.size < wy.heap.size → w5.cell? ⟨w.heap.size, 0, none⟩ = some u := fun u h1 h2 => by rw [(ocell hO1).1 _ _ h2 (by omega)]; exact h1
  have keyf : wy.frozen? ⟨w.heap.size, 0, none⟩ = false → w.heap.size < wy.heap.size → w5.frozen? ⟨w.heap.size, 0, none⟩ = false := fun h1 h2 => by rw [(ocell hO1).2 _ _ h2 (by omega)]; exact h1
  have HB5 := Lib.hid hB5
  rcases hT with ⟨l, AC, cC, base, hRl, rfl, rfl, hb1, hb2, hc, hf, hown, hlt⟩ | ⟨hf0, hRf, u, hu1, hu2, hlt⟩
  · have hown5 := Own.only hown hO1 (fun b o e h => by have := (Own.lt hown b o e).1; rcases h with h | h <;> omega)
    have hc5 := key _ hc hlt
    have hf5 := keyf hf hlt
    have hl5 : w.heap.size < w5.heap.size := by omega
    have e0 : readE 0 bs.length bs.length = 0 := by simp [readE]
    have eR : decR R = (l, 0) := by rw [hRl]; rfl
    rw [e0]
    have HF := Lib.hid (show ∀ w', Below w.heap.size w5 w' → Own w' base 52 2 AC l.length cC (l.flatMap insCells) → DecPost w (decR R) (.returned (.tuple #[.slice AC l.length cC, .int .i64 0])) w' from fun w' h h2 => by rw [eR]; exact ⟨AC, cC, rfl, h2.mono (by omega), HB5.out.trans h⟩)
    have Hown5 := Lib.hid hown5
    clear hown hown5 key keyf hO1 hO2 hRl eR e0 hc hf hB5
    go_wp2_with fail
    have hset : Only (fun b => b = w.heap.size) w5 (w5.setCell ⟨w.heap.size, 0, none⟩ (.slice AC l.length cC)) := Only.setCell (S := fun b => b = w.heap.size) (p := ⟨w.heap.size, 0, none⟩) (Only.refl _ w5) (.inl rfl) _
    refine bodyPost_ret (v := .tuple #[.slice AC l.length cC, .int .i64 0]) ?_ rfl (HF.out _ (hset.below (by omega) fun q hq e => by omega) (Own.only Hown5.out hset fun b o e h => by have := (Own.lt Hown5.out b o e).1; omega))
    simp [results, Try.results67, go_sem, hc5]
  · have hc5 := key _ hu1 hlt
    have hf5 := keyf hu2 hlt
    have hl5 : w.heap.size < w5.heap.size := by omega
    have e0 : readE f at_ bs.length = f := by unfold readE; rw [if_pos hf0]
    have eR : decR R = ([], f) := by rw [hRf]; rfl
    rw [e0]
    have HF := Lib.hid (show ∀ w', Below w.heap.size w5 w' → DecPost w (decR R) (.returned (.tuple #[.slice none 0 0, .int .i64 f])) w' from fun w' h => by rw [eR]; exact ⟨none, 0, rfl, Own.nil _ _ _ _, HB5.out.trans h⟩)
    clear key keyf hO1 hO2 hRf eR e0 hu1 hu2 hB5
    go_wp2_with fail
    have hset : Only (fun b => b = w.heap.size) w5 (w5.setCell ⟨w.heap.size, 0, none⟩ (.slice none 0 0)) := Only.setCell (S := fun b => b = w.heap.size) (p := ⟨w.heap.size, 0, none⟩) (Only.refl _ w5) (.inl rfl) _
    refine bodyPost_ret (v := .tuple #[.slice none 0 0, .int .i64 f]) ?_ rfl (HF.out _ (hset.below (by omega) fun q hq e => by omega))
    simp [results, Try.results67, go_sem, hc5]
end

section
/- Code and its bytes, there and back: plain laws. -/
open Go.RowKit

def insGood (i : Ins) : Prop := isOp i.op = true ∧ mayB (kindN i.op) i.a = true
theorem encFrom_ok : ∀ (l : List Ins) (xs ys : List UInt8), encFrom xs l = (ys, 0) → ys = xs ++ l.flatMap insL ∧ ∀ i ∈ l, insGood i := by
  intro l
  induction l with
  | nil =>
    intro xs ys h
    unfold encFrom at h
    injection h with h1 h2
    subst h1
    simp
  | cons i l ih =>
    intro xs ys h
    unfold encFrom at h
    split at h
    · injection h with _ h2; exact absurd h2 (by decide)
    · rename_i h1
      split at h
      · injection h with _ h2; exact absurd h2 (by decide)
      · rename_i h2
        obtain ⟨h3, h4⟩ := ih _ _ h
        refine ⟨by rw [h3, List.flatMap_cons, List.append_assoc], fun j hj => ?_⟩
        rcases List.mem_cons.1 hj with rfl | hj
        · exact ⟨by simpa using h1, by simpa using h2⟩
        · exact h4 j hj
theorem encFrom_good : ∀ (l : List Ins) (xs : List UInt8), (∀ i ∈ l, insGood i) → encFrom xs l = (xs ++ l.flatMap insL, 0) := by
  intro l
  induction l with
  | nil => intro xs _; unfold encFrom; simp
  | cons i l ih =>
    intro xs h
    obtain ⟨h1, h2⟩ := h i (List.mem_cons_self ..)
    unfold encFrom
    rw [if_neg (by rw [h1]; decide), if_neg (by rw [h2]; decide), ih _ fun j hj => h j (List.mem_cons_of_mem _ hj), List.flatMap_cons, List.append_assoc]
theorem encL_ok {l : List Ins} {ys : List UInt8} (h : encL l = (ys, 0)) : l.length ≤ 4096 ∧ ys = l.flatMap insL ∧ ∀ i ∈ l, insGood i := by
  unfold encL at h
  split at h
  · injection h with _ h2; exact absurd h2 (by decide)
  · obtain ⟨h1, h2⟩ := encFrom_ok _ _ _ h
    exact ⟨by omega, by simpa using h1, h2⟩
theorem encL_good {l : List Ins} (hl : l.length ≤ 4096) (h : ∀ i ∈ l, insGood i) : encL l = (l.flatMap insL, 0) := by
  unfold encL
  rw [if_neg (by omega), encFrom_good _ _ h, List.nil_append]
theorem encL_snd (l : List Ins) : (encL l).2 = 0 ∨ (encL l).1 = [] := by
  have key : ∀ (l : List Ins) (xs : List UInt8), (encFrom xs l).2 = 0 ∨ (encFrom xs l).1 = [] := by
    intro l
    induction l with
    | nil => intro xs; exact .inl rfl
    | cons i l ih =>
      intro xs
      unfold encFrom
      split
      · exact .inr rfl
      · split
        · exact .inr rfl
        · exact ih _
  unfold encL
  split
  · exact .inr rfl
  · exact key _ _
theorem takeL_form (pre rest : List UInt8) (kd : Nat) (a : Int) (hm : mayB kd a = true) (h1 : -9223372036854775808 ≤ a) (h2 : a ≤ 9223372036854775807) :
    takeL kd (pre ++ (argL kd a ++ rest)) pre.length = .ok (a, pre.length + (argL kd a).length) := by
  unfold mayB at hm
  unfold takeL argL
  by_cases h0 : kd = 0
  · rw [if_pos h0] at hm
    rw [if_pos h0, if_pos h0]
    have : a = 0 := by simpa using hm
    subst this
    rfl
  rw [if_neg h0] at hm
  rw [if_neg h0, if_neg h0]
  by_cases h3 : kd = 1
  · rw [if_pos h3, if_pos h3, number_form pre rest (foldN a) (foldN_lt a h1 (by omega))]
    dsimp only
    rw [unfold_fold]
  rw [if_neg h3] at hm
  rw [if_neg h3, if_neg h3, rNum_form pre rest a.toNat (by omega)]
  simp only [Bool.and_eq_true, decide_eq_true_eq] at hm
  dsimp only
  rw [Int.toNat_of_nonneg hm.1]
theorem op_len {op : Int} (h : isOp op = true) : (formL op.toNat).length = 1 := by
  obtain ⟨nn, hnn, hn, -⟩ := isOp_row h
  rw [length_formL, if_pos (by omega)]
theorem argL_le (kd : Nat) (a : Int) : (argL kd a).length ≤ 9 := by
  unfold argL
  split
  · simp
  · split
    · exact formL_le _
    · exact formL_le _
theorem insL_len {i : Ins} (h : isOp i.op = true) : 1 ≤ (insL i).length ∧ (insL i).length ≤ 10 := by
  have h1 := op_len h
  have h2 := argL_le (kindN i.op) i.a
  unfold insL
  rw [List.length_append]
  omega
theorem decStep_form (pre rest : List UInt8) (i : Ins) (hg : insGood i) (hok : InsOk i) : decStep (pre ++ (insL i ++ rest)) pre.length = .ok (i, pre.length + (insL i).length) := by
  obtain ⟨nn, hnn, hn, -⟩ := isOp_row hg.1
  obtain ⟨op, a⟩ := i
  dsimp only at hnn
  subst hnn
  have e1 : pre ++ (insL ⟨(nn : Int), a⟩ ++ rest) = pre ++ (formL nn ++ (argL (kindN (nn : Int)) a ++ rest)) := by
    unfold insL
    rw [List.append_assoc]
    rfl
  rw [e1]
  unfold decStep
  rw [rNum_form pre _ nn (by omega)]
  dsimp only
  rw [if_neg (by rw [hg.1]; decide)]
  have e2 : pre ++ (formL nn ++ (argL (kindN (nn : Int)) a ++ rest)) = (pre ++ formL nn) ++ (argL (kindN (nn : Int)) a ++ rest) := by rw [List.append_assoc]
  have e3 : pre.length + (formL nn).length = (pre ++ formL nn).length := by rw [List.length_append]
  have ht := takeL_form (pre ++ formL nn) rest (kindN (nn : Int)) a hg.2 hok.a1 hok.a2
  rw [← e2, ← e3] at ht
  rw [ht]
  dsimp only
  rw [if_neg (by rw [hg.2]; decide)]
  unfold insL
  rw [List.length_append]
  show Except.ok _ = _
  rw [Nat.add_assoc]
  rfl
theorem decFrom_forms : ∀ (l done : List Ins) (pre : List UInt8) (n : Nat), (∀ i ∈ l, insGood i ∧ InsOk i) → done.length + l.length ≤ 4096 → (l.flatMap insL).length < n → decFrom (pre ++ l.flatMap insL) n done pre.length = .ok (done ++ l) := by
  intro l
  induction l with
  | nil =>
    intro done pre n _ _ hn
    obtain ⟨n, rfl⟩ : ∃ m, n = m + 1 := ⟨n - 1, by omega⟩
    unfold decFrom
    rw [if_pos (by simp)]
    simp
  | cons i l ih =>
    intro done pre n hg hl hn
    obtain ⟨n, rfl⟩ : ∃ m, n = m + 1 := ⟨n - 1, by omega⟩
    obtain ⟨h1, h2⟩ := hg i (List.mem_cons_self ..)
    have hlen := insL_len h1.1
    rw [List.flatMap_cons] at hn ⊢
    rw [List.length_append] at hn
    rw [List.length_cons] at hl
    unfold decFrom
    rw [if_neg (by rw [List.length_append, List.length_append]; omega), if_neg (by omega), decStep_form pre _ i h1 h2]
    dsimp only
    have e1 : pre ++ (insL i ++ l.flatMap insL) = (pre ++ insL i) ++ l.flatMap insL := by rw [List.append_assoc]
    have e2 : pre.length + (insL i).length = (pre ++ insL i).length := by rw [List.length_append]
    rw [e1, e2, ih (done ++ [i]) (pre ++ insL i) n (fun j hj => hg j (List.mem_cons_of_mem _ hj)) (by rw [List.length_append]; simp; omega) (by omega), List.append_assoc]
    rfl
theorem flat_le : ∀ (l : List Ins), (∀ i ∈ l, insGood i) → (l.flatMap insL).length ≤ 10 * l.length := by
  intro l
  induction l with
  | nil => intro _; simp
  | cons i l ih =>
    intro h
    have h1 := insL_len (h i (List.mem_cons_self ..)).1
    have h2 := ih fun j hj => h j (List.mem_cons_of_mem _ hj)
    rw [List.flatMap_cons, List.length_append, List.length_cons]
    omega
theorem dec_enc {l : List Ins} {ys : List UInt8} (hok : ∀ i ∈ l, InsOk i) (h : encL l = (ys, 0)) : decL ys = (l, 0) := by
  obtain ⟨h1, h2, h3⟩ := encL_ok h
  have h4 := flat_le l h3
  subst h2
  unfold decL
  rw [if_neg (by omega)]
  have h5 := decFrom_forms l [] [] ((l.flatMap insL).length + 1) (fun i hi => ⟨h3 i hi, hok i hi⟩) (by simpa using h1) (by omega)
  rw [List.nil_append] at h5
  rw [show (0 : Nat) = ([] : List UInt8).length from rfl, h5]
  rfl
theorem enc_inj {l m : List Ins} {ys : List UInt8} (hl : ∀ i ∈ l, InsOk i) (hm : ∀ i ∈ m, InsOk i) (h1 : encL l = (ys, 0)) (h2 : encL m = (ys, 0)) : l = m := by
  have e1 := dec_enc hl h1
  have e2 := dec_enc hm h2
  rw [e1] at e2
  injection e2
theorem enc_both {l m : List Ins} {p q : List UInt8} (h1 : encL l = (p, 0)) (h2 : encL m = (q, 0)) (h : (l ++ m).length ≤ 4096) : encL (l ++ m) = (p ++ q, 0) := by
  obtain ⟨-, rfl, g1⟩ := encL_ok h1
  obtain ⟨-, rfl, g2⟩ := encL_ok h2
  rw [encL_good h fun i hi => (List.mem_append.1 hi).elim (g1 i) (g2 i), List.flatMap_append]
/-! ### Bytes that are read are the code's. -/
theorem rNum_back {bs : List UInt8} {a u k : Nat} (h : rNumL bs a = .ok (u, k)) : (bs.drop a).take k = formL u ∧ u < 9223372036854775808 ∧ a + k ≤ bs.length ∧ 1 ≤ k := by
  have h1 := rNum_lt h
  unfold rNumL at h
  split at h
  · cases h
  · rename_i hn
    split at h
    · cases h
    · injection h with h
      injection h with e1 e2
      subst e1 e2
      exact ⟨number_back hn, by omega, by omega, by omega⟩
theorem fold_unfold (u : Nat) : foldN (unfoldN u) = u := by
  unfold foldN unfoldN
  split <;> split <;> omega
theorem takeL_back {kd : Nat} {bs : List UInt8} {a a2 : Nat} {n : Int} (ha : a ≤ bs.length) (h : takeL kd bs a = .ok (n, a2)) : a2 ≤ bs.length ∧ a ≤ a2 ∧ (bs.drop a).take (a2 - a) = argL kd n ∧ -9223372036854775808 ≤ n ∧ n ≤ 9223372036854775807 := by
  unfold takeL at h
  unfold argL
  by_cases h0 : kd = 0
  · rw [if_pos h0] at h
    rw [if_pos h0]
    injection h with h
    injection h with e1 e2
    subst e1 e2
    simp
    omega
  rw [if_neg h0] at h
  rw [if_neg h0]
  by_cases h1 : kd = 1
  · rw [if_pos h1] at h
    rw [if_pos h1]
    split at h
    · rename_i u k hn
      injection h with h
      injection h with e1 e2
      subst e1 e2
      have hb := number_back hn
      have hlt := number_lt hn
      refine ⟨by omega, by omega, ?_, ?_, ?_⟩
      · rw [Nat.add_sub_cancel_left, hb, fold_unfold]
      · unfold unfoldN; split <;> omega
      · unfold unfoldN; split <;> omega
    · cases h
  · rw [if_neg h1] at h
    rw [if_neg h1]
    split at h
    · rename_i u k hn
      injection h with h
      injection h with e1 e2
      subst e1 e2
      obtain ⟨hb, h2, h3, h4⟩ := rNum_back hn
      refine ⟨by omega, by omega, ?_, by omega, by omega⟩
      rw [Nat.add_sub_cancel_left, hb, Int.toNat_natCast]
    · cases h
theorem decStep_back {bs : List UInt8} {a a2 : Nat} {i : Ins} (h : decStep bs a = .ok (i, a2)) : a < a2 ∧ a2 ≤ bs.length ∧ (bs.drop a).take (a2 - a) = insL i ∧ insGood i ∧ InsOk i := by
  unfold decStep at h
  split at h
  · cases h
  rename_i u k hn
  obtain ⟨hb, hu, hk1, hk2⟩ := rNum_back hn
  split at h
  · cases h
  rename_i hop
  have hop : isOp (u : Int) = true := by simpa using hop
  split at h
  · cases h
  rename_i n a3 ht
  split at h
  · cases h
  rename_i hm
  have hm : mayB (kindN (u : Int)) n = true := by simpa using hm
  injection h with h
  injection h with e1 e2
  subst e1 e2
  obtain ⟨h1, h2, h3, h4, h5⟩ := takeL_back hk1 ht
  refine ⟨by omega, h1, ?_, ⟨hop, hm⟩, ⟨by dsimp only; omega, by dsimp only; omega, h4, h5⟩⟩
  unfold insL
  rw [Int.toNat_natCast, ← hb, ← h3, ← List.drop_drop, show a3 - a = k + (a3 - (a + k)) from by omega, List.take_add]
theorem decFrom_back {bs : List UInt8} : ∀ (n : Nat) (done : List Ins) (a : Nat) (l : List Ins), decFrom bs n done a = .ok l → done.flatMap insL = bs.take a → (∀ i ∈ done, insGood i ∧ InsOk i) → done.length ≤ 4096 → a ≤ bs.length → l.flatMap insL = bs ∧ (∀ i ∈ l, insGood i ∧ InsOk i) ∧ l.length ≤ 4096 := by
  intro n
  induction n with
  | zero => intro done a l h; unfold decFrom at h; cases h
  | succ n ih =>
    intro done a l h hb hg hl ha
    unfold decFrom at h
    split at h
    · rename_i h1
      injection h with h
      subst h
      rw [List.take_of_length_le h1] at hb
      exact ⟨hb, hg, hl⟩
    split at h
    · cases h
    rename_i h1 h2
    split at h
    · cases h
    rename_i i a2 hs
    obtain ⟨g1, g2, g3, g4, g5⟩ := decStep_back hs
    refine ih _ _ _ h ?_ ?_ (by rw [List.length_append]; simp; omega) g2
    · rw [List.flatMap_append, hb, List.flatMap_cons, List.flatMap_nil, List.append_nil, ← g3, show a2 = a + (a2 - a) from by omega, List.take_add, Nat.add_sub_cancel_left]
    · intro j hj
      rcases List.mem_append.1 hj with hj | hj
      · exact hg j hj
      · obtain rfl : j = i := by simpa using hj
        exact ⟨g4, g5⟩
theorem decStep_err {bs : List UInt8} {a : Nat} {f : Int} (h : decStep bs a = .error f) : f ≠ 0 := by
  unfold decStep at h
  split at h
  · rename_i hn; injection h with h; subst h; exact rNumL_err hn
  split at h
  · injection h with h; omega
  split at h
  · rename_i ht; injection h with h; subst h; exact takeL_err ht
  split at h
  · injection h with h; omega
  · cases h
theorem decFrom_err {bs : List UInt8} : ∀ (n : Nat) (done : List Ins) (a : Nat) (f : Int), decFrom bs n done a = .error f → bs.length - a < n → f ≠ 0 := by
  intro n
  induction n with
  | zero => intro done a f h h1; omega
  | succ n ih =>
    intro done a f h h1
    unfold decFrom at h
    split at h
    · cases h
    split at h
    · injection h with h; omega
    split at h
    · rename_i hs; injection h with h; subst h; exact decStep_err hs
    · rename_i i a2 hs
      have := (decStep_back hs).1
      exact ih _ _ _ h (by omega)
/-- What is decoded: whole, and its bytes are these; or nothing, and a fault. -/
theorem dec_back (bs : List UInt8) : ((decL bs).2 = 0 ∧ encL (decL bs).1 = (bs, 0) ∧ (∀ i ∈ (decL bs).1, insGood i ∧ InsOk i) ∧ (decL bs).1.length ≤ 4096) ∨ ((decL bs).2 ≠ 0 ∧ (decL bs).1 = []) := by
  unfold decL
  split
  · exact .inr ⟨by decide, rfl⟩
  · cases hd : decFrom bs (bs.length + 1) [] 0 with
    | error f => exact .inr ⟨decFrom_err _ _ _ _ hd (by omega), rfl⟩
    | ok l =>
      obtain ⟨h1, h2, h3⟩ := decFrom_back _ _ _ _ hd (by simp) (by simp) (by simp) (Nat.zero_le _)
      refine .inl ⟨rfl, ?_, h2, h3⟩
      show encL l = _
      rw [encL_good h3 fun i hi => (h2 i hi).1, h1]
end
end Go.Proofs.Ytadnjfoinmeloaa
