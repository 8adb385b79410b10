/- The law's agrees: of the heights that Run tells (printed by gen_lwc.py). -/
import Derived.Test.YtcmpmhlcfalbhaaLwPa
namespace Go.Proofs.Ytcmpmhlcfalbhaa
open Go.RowKit

def nowI (P : Prg) (f n : Nat) (x : Int) : Int := x - (takesL P f n).1 + (takesL P f n).2
/-- Which places were come to, and the most that lay anywhere. -/
structure CmS (P : Prg) (f : Nat) (top : Int) (cm : List Bool) (most : Int) : Prop where
  len : cm.length = P.len f
  zero : cm[0]? = some true
  reach : ∀ v : Nat, cm[v]? = some true → Reach (nxF P f) 0 v
  lo : 0 ≤ most
  hi : most ≤ top
def CmP (P : Prg) (f : Nat) (h : List Int) (cm : List Bool) (most : Int) (j : Nat) : Prop :=
  ∀ v : Nat, v < j → cm[v]? = some true → (∀ u ∈ nxF P f v, cm[u]? = some true) ∧ ∀ x, h[v]? = some x → x ≤ most ∧ nowI P f v x ≤ most
section
variable {P : Prg} {f : Nat} {h : List Int} {top most : Int} {cm : List Bool}
theorem CmP.all (H : CmP P f h cm most (P.len f)) (S : CmS P f top cm most) {v : Nat} (hr : Reach (nxF P f) 0 v) : cm[v]? = some true := by
  have key : ∀ {a b : Nat}, Reach (nxF P f) a b → cm[a]? = some true → cm[b]? = some true := by
    intro a b hr
    induction hr with
    | refl => exact fun h => h
    | step h1 _ ih =>
      intro ha
      exact ih ((H _ (by rw [← S.len]; exact (List.getElem?_eq_some_iff.1 ha).1) ha).1 _ h1)
  exact key hr S.zero
theorem CmP.eqTop (H : CmP P f h cm most (P.len f)) (S : CmS P f top cm most) (hF : HFin P f h) (hT : TopF P f h top) : most = top := by
  have := S.hi
  rcases hT.is with h0 | ⟨j, x, h1, h2, h3⟩
  · have := S.lo; omega
  · have hc := H.all S (hF.come j x h1 h2)
    have := (H j (by rw [← hF.len]; exact (List.getElem?_eq_some_iff.1 h1).1) hc).2 x h1
    unfold nowI at this
    omega
theorem CmS.put (S : CmS P f top cm most) {v u : Nat} (hv : cm[v]? = some true) (hu : u ∈ nxF P f v) : CmS P f top (cm.set u true) most := by
  refine ⟨by rw [List.length_set]; exact S.len, ?_, fun k hk => ?_, S.lo, S.hi⟩
  · by_cases e : u = 0
    · subst e; exact List.getElem?_set_self (List.getElem?_eq_some_iff.1 S.zero).1
    · rw [List.getElem?_set_ne e]; exact S.zero
  · rcases set_get hk with ⟨rfl, -⟩ | ⟨-, hk⟩
    · exact (S.reach v hv).trans (.one hu)
    · exact S.reach k hk
theorem ends_goes {i : Ins} {j : Nat} (e : endsI i = false) : ¬ (goesL i j).length = 0 := by
  unfold endsI at e
  simp only [Bool.or_eq_false_iff, decide_eq_false_iff_not] at e
  obtain ⟨⟨e1, e2⟩, e3⟩ := e
  unfold goesL
  rw [if_neg (by rintro (h | h | h) <;> contradiction)]
  split
  · simp
  split
  · simp
  split <;> simp
theorem cm_mono {cm : List Bool} {u v : Nat} (h : cm[v]? = some true) : (cm.set u true)[v]? = some true := by
  by_cases e : u = v
  · subst e; exact List.getElem?_set_self (List.getElem?_eq_some_iff.1 h).1
  · rw [List.getElem?_set_ne e]; exact h
end
set_option maxRecDepth 100000 in
set_option maxHeartbeats 20000000 in
theorem agrees_any (p : PrgM) (f : Nat) (h : List Int) (top : Int) (A : Option Addr) (c : Nat) (w : World) (hp : PrgAt w p) (hg : Good p.plain) (hf : f < p.fs.length) (hF : HFin p.plain f h) (hT : TopF p.plain f h top) (hr : RV w A (h.map iv)) :
    Calls Try.prog 26 #[p.val, .int .i64 (f : Int), .slice A h.length c, .int .i64 top] w fun e w' => e = .returned (.bool true) ∧ Below w.heap.size w w' := by
  have hfP : f < p.plain.fs.length := by simpa [PrgM.plain] using hf
  obtain ⟨N, hN⟩ : ∃ N, N = h.length := ⟨_, rfl⟩
  have hNl : N = p.plain.len f := by rw [hN]; exact hF.len
  have hN0 : 0 < N := by rw [hNl]; exact len_pos hg.chk hfP
  have hN1 : N ≤ 4096 := by rw [hNl]; exact good_len hg f
  rw [← hN]
  obtain ⟨b, off, rfl, hb, hc⟩ := hr.at_ (by rw [List.length_map]; omega)
  have hx : ∀ v, v < N → ∃ x, h[v]? = some x ∧ w.cell? ⟨b, off + v, none⟩ = some (.int .i64 x) := fun v hv => by
    obtain ⟨x, hx⟩ : ∃ x, h[v]? = some x := ⟨_, List.getElem?_eq_getElem (by omega)⟩
    exact ⟨x, hx, hc v _ (by rw [List.getElem?_map, hx]; rfl)⟩
  have h00 : w.cell? ⟨b, off, none⟩ = some (.int .i64 0) := hc 0 _ (by rw [List.getElem?_map, hF.zero]; rfl)
  obtain ⟨w1, hw1⟩ : ∃ w1, w1 = w.alloc (.cells #[.int .i64 p.mem, .slice p.AD p.data.length p.cD, .slice p.AF p.fs.length p.cF] 26) := ⟨_, rfl⟩
  have hb1 : Below w.heap.size w w1 := by rw [hw1]; exact (Below.refl _ _).alloc (Nat.le_refl _) _
  obtain ⟨gx, hgx⟩ : ∃ g, g = w.heap.size := ⟨_, rfl⟩
  have hX : Blk w1 gx 26 #[.int .i64 p.mem, .slice p.AD p.data.length p.cD, .slice p.AF p.fs.length p.cF] := by rw [hw1, hgx]; exact Blk.new _ _ _
  have hP1 := hp.below hb1
  obtain ⟨g, hgf⟩ : ∃ g, p.fs[f]? = some g := ⟨_, List.getElem?_eq_getElem hf⟩
  have hgN : g.code.length = N := by rw [hNl]; exact (PrgM.len_plain hgf).symm
  obtain ⟨b0, off0, hA, hb0, q0, q1, q2, q3, hFn, hFl⟩ := hP1.fn hgf
  have x2 : w1.cell? ⟨gx, 2, none⟩ = some (.slice (some ⟨b0, off0, none⟩) p.fs.length p.cF) := by rw [← hA]; exact hX.cell 2
  have xl := hX.lt
  have g3 : (f : Int) < (p.fs.length : Int) := by omega
  have h01 : w1.cell? ⟨b, off, none⟩ = some (.int .i64 0) := ((bcell hb1).1 _ _ hb).trans h00
  have hbl : b < w1.heap.size := Nat.lt_of_lt_of_le hb hb1.size
  have hmkB := run_bools N (by omega)
  have hN0' : (0 : Int) < (N : Int) := by omega
  rw [hgN] at q3
  obtain ⟨i0, hi0⟩ : ∃ i, g.code[0]? = some i := ⟨_, List.getElem?_eq_getElem (by omega)⟩
  obtain ⟨b1, off1, hA1, hb1z, -, -, -, -⟩ := hFn.ins hi0
  rw [hA1] at q3
  have HA1 := Lib.hid hA1
  clear hi0 hA1
  have HX := Lib.hid hX
  have HP1 := Lib.hid hP1
  have HB1 := Lib.hid hb1
  have Hw1 := Lib.hid hw1
  have Hgx := Lib.hid hgx
  have Hx := Lib.hid (fun v hv => (hx v hv).imp fun x hh => And.intro hh.1 (((bcell hb1).1 _ _ hb).trans hh.2))
  have HA := Lib.hid hA
  have Hgf := Lib.hid hgf
  have HNl := Lib.hid hNl
  have HN := Lib.hid hN
  have HgN := Lib.hid hgN
  have HF := Lib.hid hF
  have HT := Lib.hid hT
  have HFl := Lib.hid hFl
  clear hb1z hp hr hb hc hx h00 hw1 hb1 hX hP1 hgx q0 q1 q2 hA hFn hgf hNl hN hgN hF hT hFl
  go_enter Try.func26, Try.ntmps26
  go_upto_region 1 with (fail)
  rw [← Hw1.out, ← Hgx.out]
  clear Hw1 Hgx
  go_upto_region 4 with (fail)
  obtain ⟨w2, hw2⟩ : ∃ w2, w2 = w1.alloc (.cells (Array.replicate N (bo false)) 4) := ⟨_, rfl⟩
  obtain ⟨gC, hgC⟩ : ∃ g, g = w1.heap.size := ⟨_, rfl⟩
  have hb2 : Below w1.heap.size w1 w2 := by rw [hw2]; exact (Below.refl _ _).alloc (Nat.le_refl _) _
  have hC2 : OwnL w2 0 (some ⟨gC, 0, none⟩) N N (List.replicate N false) := OwnL.of_blk (by rw [hw2, hgC, show ((List.replicate N false).map bo).toArray = Array.replicate N (bo false) by simp]; exact Blk.new _ _ _) (by simp) (by omega)
  have hl2 := hC2.at_ 0 (by simpa using hN0)
  obtain ⟨hf2, hgl2⟩ := OwnL.room hC2 0 (by simpa using hN0)
  obtain ⟨w3, hw3⟩ : ∃ w3, w3 = w2.setCell ⟨gC, 0, none⟩ (.bool true) := ⟨_, rfl⟩
  have hC3 : OwnL w3 0 (some ⟨gC, 0, none⟩) N N ((List.replicate N false).set 0 true) := by rw [hw3]; exact hC2.put 0 true
  have hO3 : Only (fun k => k = gC) w1 w3 := by rw [hw3]; exact (Only.of_fresh (S := fun k => k = gC) hb2).setCell (p := ⟨gC, 0, none⟩) (.inl rfl) _
  have HC3 := Lib.hid hC3
  have HO3 := Lib.hid hO3
  have Hw3 := Lib.hid hw3
  have Hw2 := Lib.hid hw2
  have HgC := Lib.hid hgC
  have HlC := Lib.hid (show w1.heap.size ≤ gC from by omega)
  clear hw2 hgC hb2 hC2 hw3 hC3 hO3
  rw [show (List.replicate N false)[0]'(by simpa using hN0) = false by simp] at hl2
  go_upto_region 5 with (fail)
  rw [← Hw2.out, ← HgC.out]
  go_upto_region 6 with (fail)
  rw [← Hw3.out]
  clear Hw2 Hw3 HgC hl2 hf2 hgl2 hmkB
  go_wp2_with fail
  go_loopg [11, 12] (2 * N + 1) (fun gg m ag wr => ∃ (cm : List Bool) (most : Int) (a : Bool), m = .int .i64 most ∧ ag = .bool a ∧ Hid (CmS p.plain f top cm most) ∧ OwnL wr 0 (some ⟨gC, 0, none⟩) N N cm ∧ Only (fun k => k = gC) w1 wr ∧ (2 * falses cm + (if a then 1 else 0)) ≤ gg ∧ Hid (a = false → CmP p.plain f h cm most N))
  case atStart =>
    refine ⟨_, 0, true, rfl, rfl, Lib.hid ⟨by rw [List.length_set, List.length_replicate]; exact HNl.out, List.getElem?_set_self (by simpa using hN0), fun v hv => ?_, Int.le_refl 0, HT.out.pos⟩, HC3.out, HO3.out, ?_, Lib.hid (fun e => by cases e)⟩
    · rcases set_get hv with ⟨rfl, -⟩ | ⟨-, hv⟩
      · exact .refl 0
      · have := List.eq_of_mem_replicate (List.mem_of_getElem? hv); cases this
    · have h1 := falses_set (a := List.replicate N false) (f := 0) (by rw [List.getElem?_replicate, if_pos hN0])
      have h2 : falses (List.replicate N false) ≤ N := by unfold falses; have := List.countP_le_length (p := fun x => !x) (l := List.replicate N false); rwa [List.length_replicate] at this
      simp only [if_true]
      omega
  case round =>
    rename World => wr
    obtain ⟨cm, most, a, rfl, rfl, HS, hC, hO, hmu, HCl⟩ := hrel
    have HC := Lib.hid hC
    have HO := Lib.hid hO
    clear HC3 HO3
    cases a with
    | true =>
      clear hC hO
      simp only [if_true] at hmu
      go_wp2_with fail
      go_loopw [11, 12, 13] (fun m ag i wy => ∃ (j : Nat) (cj : List Bool) (mj : Int) (aj : Bool), j ≤ N ∧ i = .int .i64 (j : Int) ∧ m = .int .i64 mj ∧ ag = .bool aj ∧ Hid (CmS p.plain f top cj mj) ∧ OwnL wy 0 (some ⟨gC, 0, none⟩) N N cj ∧ Only (fun k => k = gC) w1 wy ∧
        Hid ((aj = false ∧ cj = cm ∧ CmP p.plain f h cj mj j) ∨ (aj = true ∧ falses cj < falses cm))) (fun _ _ i _ => N - (intOf i).toNat)
      case atStart => exact ⟨0, cm, most, false, Nat.zero_le _, rfl, rfl, rfl, HS, HC.out, HO.out, Lib.hid (.inl ⟨rfl, rfl, fun v hv => by omega⟩)⟩
      case round =>
        rename World => wy
        obtain ⟨j, cj, mj, aj, hj, rfl, rfl, rfl, HSj, hCj, hOj, HD⟩ := hrel
        have HCj := Lib.hid hCj
        have HOj := Lib.hid hOj
        by_cases hlt : j < N
        · have g2 : (j : Int) < (N : Int) := by omega
          have hjl : j < cj.length := by rw [HSj.out.len, ← HNl.out]; exact hlt
          have l0 := OwnL.at_ hCj j hjl
          obtain ⟨lf, ll⟩ := OwnL.room hCj j hjl
          obtain ⟨v, hv⟩ : ∃ v, v = cj[j] := ⟨_, rfl⟩
          rw [← hv] at l0
          have Hv := Lib.hid (show cj[j]? = some v from by rw [hv]; exact List.getElem?_eq_getElem hjl)
          clear hv
          cases v with
          | false =>
            clear hCj hOj
            go_wp2_with fail
            refine ⟨⟨j + 1, cj, mj, aj, by omega, rfl, rfl, rfl, HSj, HCj.out, HOj.out, Lib.hid ?_⟩, ?_⟩
            · rcases HD.out with ⟨h1, h2, h3⟩ | h1
              · refine .inl ⟨h1, h2, fun u hu hcu => ?_⟩
                by_cases e : u = j
                · subst e; rw [Hv.out] at hcu; cases hcu
                · exact h3 u (by omega) hcu
              · exact .inr h1
            · simp [intOf]; omega
          | true =>
            obtain ⟨x, hx1, hx2⟩ := Hx.out j hlt
            have hbC : ¬ b = gC := by have := HlC.out; omega
            have hgxC : ¬ gx = gC := by have := HlC.out; have := HX.out.lt; omega
            have hx3 : wy.cell? ⟨b, off + j, none⟩ = some (.int .i64 x) := (hOj.cell (p := ⟨b, off + j, none⟩) hbl hbC).trans hx2
            have hby : b < wy.heap.size := by have := hOj.size; omega
            have hxn : x ≠ -1 := fun e => by
              have h1 := (HF.out.iff hg.chk hx1).2 (HSj.out.reach j Hv.out)
              exact h1 e
            have hx0 : 0 ≤ x := by have := (HF.out.bnd j x hx1).1; omega
            have hx256 : x ≤ 256 := (HF.out.bnd j x hx1).2
            obtain ⟨i, hi⟩ := Prg.ins_ex (P := p.plain) (f := f) (n := j) (by rw [← HNl.out]; exact hlt)
            have hI := ins_facts hg.chk hi
            obtain ⟨bh, hst, hgo⟩ := HF.out.fit j x i hx1 hxn hi
            obtain ⟨hbh, hb0, hb256, hall, hcond⟩ := stand_ok hI hx0 hst
            have hnx := HF.out.next hg.chk hx1 hxn hi
            have Hi := Lib.hid hi
            have Hx1 := Lib.hid hx1
            have Hgo := Lib.hid hgo
            have Hnx := Lib.hid hnx
            have Hcond := Lib.hid hcond
            have Hbh := Lib.hid hbh
            have Hall := Lib.hid hall
            have HI := Lib.hid hI
            have hXy := HX.out.only hOj hgxC
            have hPy : PrgAt wy p := HP1.out.below (hOj.below (B := w1.heap.size) (Nat.le_refl _) fun k hk e => by have := HlC.out; omega)
            have x0 : wy.cell? ⟨gx, 0, none⟩ = some (.int .i64 p.mem) := hXy.cell 0
            have x1 : wy.cell? ⟨gx, 1, none⟩ = some (.slice p.AD p.data.length p.cD) := hXy.cell 1
            have x2y : wy.cell? ⟨gx, 2, none⟩ = some (.slice p.AF p.fs.length p.cF) := hXy.cell 2
            have xly := hXy.lt
            have ht0 := hI.t0
            have ht1 := hI.t1
            have hg0 := hI.g0
            have hg1 := hI.g1
            obtain ⟨T, hT⟩ : ∃ T, T = takesL p.plain f j := ⟨_, rfl⟩
            rw [← hT] at ht0 ht1 hg0 hg1 hbh
            have HTk := Lib.hid hT
            have hw1e : IntKind.i64.wrap (x - T.1) = x - T.1 := by rw [IntKind.wrap_i64]; omega
            have hw2e : IntKind.i64.wrap (x - T.1 + T.2) = bh := by rw [IntKind.wrap_i64, hbh]; omega
            obtain ⟨gP, hgP⟩ : ∃ g, g = wy.heap.size := ⟨_, rfl⟩
            obtain ⟨w4, hw4⟩ : ∃ w4, w4 = wy.alloc (.cells #[.int .i64 (f : Int), .int .i64 (j : Int)] 35) := ⟨_, rfl⟩
            have hb4 : Below wy.heap.size wy w4 := by rw [hw4]; exact (Below.refl _ _).alloc (Nat.le_refl _) _
            have hS4 : Blk w4 gP 35 #[.int .i64 (f : Int), .int .i64 (j : Int)] := by rw [hw4, hgP]; exact Blk.new _ _ _
            have HTa := Lib.hid (takes_any p f j w4 (hPy.below hb4))
            rw [← hT] at HTa
            have HS4 := Lib.hid hS4
            have Hb4 := Lib.hid hb4
            have Hw4 := Lib.hid hw4
            have HgP := Lib.hid hgP
            have HXy := Lib.hid hXy
            have HPy := Lib.hid hPy
            clear hCj hOj hx1 hx2 hxn hi hI hst hgo hbh hall hcond hnx hXy hPy hT hgP hw4 hb4 hS4
            go_upto_region 15 with (fail)
            rw [← Hw4.out, ← HgP.out]
            clear Hw4 l0 lf ll
            have s0 : w4.cell? ⟨gP, 0, none⟩ = some (.int .i64 (f : Int)) := HS4.out.cell 0
            have s1 : w4.cell? ⟨gP, 1, none⟩ = some (.int .i64 (j : Int)) := HS4.out.cell 1
            have sl := HS4.out.lt
            have x04 : w4.cell? ⟨gx, 0, none⟩ = some (.int .i64 p.mem) := ((bcell Hb4.out).1 _ _ xly).trans x0
            have x14 : w4.cell? ⟨gx, 1, none⟩ = some (.slice p.AD p.data.length p.cD) := ((bcell Hb4.out).1 _ _ xly).trans x1
            have x24 : w4.cell? ⟨gx, 2, none⟩ = some (.slice p.AF p.fs.length p.cF) := ((bcell Hb4.out).1 _ _ xly).trans x2y
            have xl4 : gx < w4.heap.size := Nat.lt_of_lt_of_le xly Hb4.out.size
            have hx4 : w4.cell? ⟨b, off + j, none⟩ = some (.int .i64 x) := ((bcell Hb4.out).1 _ _ hby).trans hx3
            have hb4l : b < w4.heap.size := Nat.lt_of_lt_of_le hby Hb4.out.size
            clear x0 x1 x2y xly hx3 hby
            go_wp2_with fail
            refine HTa.out.mono ?_
            rintro e w5 ⟨rfl, hb5⟩
            have hS5 := HS4.out.below hb5 HS4.out.lt
            have hX5 := (HXy.out.below Hb4.out HXy.out.lt).below hb5 (HXy.out.below Hb4.out HXy.out.lt).lt
            have hx5 : w5.cell? ⟨b, off + j, none⟩ = some (.int .i64 x) := ((bcell hb5).1 _ _ hb4l).trans hx4
            have hbl5 : b < w5.heap.size := Nat.lt_of_lt_of_le hb4l hb5.size
            have hP5 := (HPy.out.below Hb4.out).below hb5
            have Hby5 := Lib.hid (show Below wy.heap.size wy w5 from Hb4.out.trans (hb5.mono Hb4.out.size))
            obtain ⟨b0', off0', hA', hb0', p0, p1, p2, p3, hFn, hFl'⟩ := hP5.fn Hgf.out
            have hAe := HA.out.symm.trans hA'
            injection hAe with hAe
            injection hAe with e1 e2
            subst e1 e2
            have hi2 : g.code[j]? = some i := by have h := Hi.out; rw [p.ins_plain, Hgf.out, Option.bind_some] at h; exact h
            obtain ⟨b1', off1', hA1', hb1', o0, o1, hiok, hNg⟩ := hFn.ins hi2
            have hAe := HA1.out.symm.trans hA1'
            injection hAe with hAe
            injection hAe with e1 e2
            subst e1 e2
            have x05 : w5.cell? ⟨gx, 0, none⟩ = some (.int .i64 p.mem) := hX5.cell 0
            have x15 : w5.cell? ⟨gx, 1, none⟩ = some (.slice p.AD p.data.length p.cD) := hX5.cell 1
            have x25 : w5.cell? ⟨gx, 2, none⟩ = some (.slice (some ⟨b0, off0, none⟩) p.fs.length p.cF) := by rw [← hA']; exact hX5.cell 2
            have xl5 := hX5.lt
            have s05 : w5.cell? ⟨gP, 0, none⟩ = some (.int .i64 (f : Int)) := hS5.cell 0
            have s15 : w5.cell? ⟨gP, 1, none⟩ = some (.int .i64 (j : Int)) := hS5.cell 1
            have sl5 := hS5.lt
            have g5 : (j : Int) < (g.code.length : Int) := by omega
            have HS5 := Lib.hid hS5
            have HX5 := Lib.hid hX5
            have HP5 := Lib.hid hP5
            have Hres := Lib.hid (show p.plain.results f = g.results from PrgM.results_plain Hgf.out)
            have Hpos := Lib.hid (show Prg.ins p.plain f j = some i from Hi.out)
            clear s0 s1 sl x04 x14 x24 xl4 hx4 hb4l hS5 hX5 hP5 hA' hA1' p0 p1 p3 hFn hi2 hb5
            obtain ⟨W, hW⟩ : ∃ W, W = wantsI p.plain f j i := ⟨_, rfl⟩
            have hWx : W ≤ x := by
              rw [hW]
              unfold wantsI
              have hc := Hcond.out
              by_cases h18 : i.op = 18
              · rw [if_pos h18] at hc
                have h1 := (HI.out.ret h18).1
                rw [if_neg (by rw [h18]; decide), h1, hc]
                exact Int.le_refl _
              · rw [if_neg h18] at hc
                exact hc
            have HWn := Lib.hid (wants13_any p f j i w5.drew (HP5.out.below ((Below.refl _ w5).drew)) Hpos.out (fun h5 => by have := (HI.out.copy h5).2.2; omega))
            rw [← hW, show p.val = .agg #[.int .i64 p.mem, .slice p.AD p.data.length p.cD, .slice (some ⟨b0, off0, none⟩) p.fs.length p.cF] from by show Value.agg #[.int .i64 p.mem, .slice p.AD p.data.length p.cD, .slice p.AF p.fs.length p.cF] = _; rw [HA.out]] at HWn
            clear hW
            have hWxn : ¬ x < W := by omega
            have hxn0 : ¬ x < 0 := by omega
            have hbn : ¬ 256 < bh := by omega
            obtain ⟨op, aa⟩ := i
            dsimp only at o0 o1
            by_cases h18 : op = 18
            · have hxr : x = g.results := by
                have hc := Hcond.out
                dsimp only at hc
                rw [if_pos h18] at hc
                rw [← Hres.out]
                exact hc
              have Hxr := Lib.hid hxr
              rw [← hxr] at p2
              subst h18
              clear hxr
              go_upto_region 17 with (fail)
              obtain ⟨SC, hSCd⟩ : ∃ S : World → Prop, S = fun w' => (w'.cell? ⟨b, off + j, none⟩ = some (.int .i64 x) ∧ b < w'.heap.size) ∧ (w'.cell? ⟨gx, 0, none⟩ = some (.int .i64 p.mem) ∧ w'.cell? ⟨gx, 1, none⟩ = some (.slice p.AD p.data.length p.cD) ∧ w'.cell? ⟨gx, 2, none⟩ = some (.slice (some ⟨b0, off0, none⟩) p.fs.length p.cF) ∧ gx < w'.heap.size) ∧ (w'.cell? ⟨gP, 0, none⟩ = some (.int .i64 (f : Int)) ∧ w'.cell? ⟨gP, 1, none⟩ = some (.int .i64 (j : Int)) ∧ gP < w'.heap.size) ∧ (w'.cell? ⟨b1, off1 + j * 2, none⟩ = some (.int .i64 18) ∧ b1 < w'.heap.size) ∧ (w'.cell? ⟨b0, off0 + f * 4 + 2, none⟩ = some (.int .i64 x) ∧ b0 < w'.heap.size) := ⟨_, rfl⟩
              have hSC : SC w5.drew := by rw [hSCd]; exact ⟨⟨hx5, hbl5⟩, ⟨x05, x15, x25, xl5⟩, ⟨s05, s15, sl5⟩, ⟨o0, hb1'⟩, ⟨p2, hb0'⟩⟩
              have HSC := Lib.hid (show SC w5.drew from hSC)
              have HSd := Lib.hid hSCd
              clear hSC hSCd
              refine region_heldT 40 SC (by kernel_rfl) (by decide) ?_
              refine HeadW.takeA 0 (v := .slice (some ⟨b, off, none⟩) N c) rfl (by kernel_rfl) rfl (by decide) (fun _ _ _ hL => seqB_ready hL.1) (by kernel_rfl) (by kernel_rfl) (fun _ _ _ h => h) HSC.out (.inl ⟨by kernel_rfl, by intro w hSw; rw [HSd.out] at hSw; obtain ⟨⟨e0, l0⟩, ⟨e1, e2, e3, l1⟩, ⟨e4, e5, l2⟩, ⟨e6, l3⟩, ⟨e7, l4⟩⟩ := hSw; go_simp⟩) ?_
              simp only [Act.put, List.setIfInBounds_toArray]
              refine HeadW.takeA 1 (v := .int .i64 (j : Int)) rfl (by kernel_rfl) rfl (by decide) (fun _ _ _ hL => seqB_ready hL.1) (by kernel_rfl) (by kernel_rfl) (fun _ _ _ h => h) HSC.out (.inl ⟨by kernel_rfl, by intro w hSw; rw [HSd.out] at hSw; obtain ⟨⟨e0, l0⟩, ⟨e1, e2, e3, l1⟩, ⟨e4, e5, l2⟩, ⟨e6, l3⟩, ⟨e7, l4⟩⟩ := hSw; go_simp⟩) ?_
              simp only [Act.put]
              refine HeadW.takeA 2 (v := .pointer (some ⟨b, off + j, none⟩)) rfl (by kernel_rfl) rfl (by decide) (fun _ _ _ hL => seqB_ready hL.1) (by kernel_rfl) (by kernel_rfl) (fun _ _ _ h => h) HSC.out (.inl ⟨by kernel_rfl, by intro w hSw; rw [HSd.out] at hSw; obtain ⟨⟨e0, l0⟩, ⟨e1, e2, e3, l1⟩, ⟨e4, e5, l2⟩, ⟨e6, l3⟩, ⟨e7, l4⟩⟩ := hSw; go_simp⟩) ?_
              simp only [Act.put]
              refine HeadW.takeA 3 (v := .int .i64 x) rfl (by kernel_rfl) rfl (by decide) (fun _ _ _ hL => seqB_ready hL.1) (by kernel_rfl) (by kernel_rfl) (fun _ _ _ h => h) HSC.out (.inl ⟨by kernel_rfl, by intro w hSw; rw [HSd.out] at hSw; obtain ⟨⟨e0, l0⟩, ⟨e1, e2, e3, l1⟩, ⟨e4, e5, l2⟩, ⟨e6, l3⟩, ⟨e7, l4⟩⟩ := hSw; go_simp⟩) ?_
              simp only [Act.put]
              refine HeadW.takeA 4 (v := .bool false) rfl (by kernel_rfl) rfl (by decide) (fun _ _ _ hL => seqB_ready hL.1) (by kernel_rfl) (by kernel_rfl) (fun _ _ _ h => h) HSC.out (.inl ⟨by kernel_rfl, by intro w hSw; rw [HSd.out] at hSw; obtain ⟨⟨e0, l0⟩, ⟨e1, e2, e3, l1⟩, ⟨e4, e5, l2⟩, ⟨e6, l3⟩, ⟨e7, l4⟩⟩ := hSw; go_simp⟩) ?_
              simp only [Act.put]
              refine HeadW.takeA 5 (v := .bool false) rfl (by kernel_rfl) rfl (by decide) (fun _ _ _ hL => seqB_ready hL.1) (by kernel_rfl) (by kernel_rfl) (fun _ _ _ h => h) HSC.out (.inl ⟨by kernel_rfl, by intro w hSw; rw [HSd.out] at hSw; obtain ⟨⟨e0, l0⟩, ⟨e1, e2, e3, l1⟩, ⟨e4, e5, l2⟩, ⟨e6, l3⟩, ⟨e7, l4⟩⟩ := hSw; go_simp⟩) ?_
              simp only [Act.put]
              refine HeadW.takeA 6 (v := .agg #[.int .i64 p.mem, .slice p.AD p.data.length p.cD, .slice (some ⟨b0, off0, none⟩) p.fs.length p.cF]) rfl (by kernel_rfl) rfl (by decide) (fun _ _ _ hL => seqB_ready hL.1) (by kernel_rfl) (by kernel_rfl) (fun _ _ _ h => h) HSC.out (.inl ⟨by kernel_rfl, by intro w hSw; rw [HSd.out] at hSw; obtain ⟨⟨e0, l0⟩, ⟨e1, e2, e3, l1⟩, ⟨e4, e5, l2⟩, ⟨e6, l3⟩, ⟨e7, l4⟩⟩ := hSw; go_simp⟩) ?_
              simp only [Act.put]
              refine HeadW.takeA 7 (v := .agg #[.int .i64 (f : Int), .int .i64 (j : Int)]) rfl (by kernel_rfl) rfl (by decide) (fun _ _ _ hL => seqB_ready hL.1) (by kernel_rfl) (by kernel_rfl) (fun _ _ _ h => h) HSC.out (.inl ⟨by kernel_rfl, by intro w hSw; rw [HSd.out] at hSw; obtain ⟨⟨e0, l0⟩, ⟨e1, e2, e3, l1⟩, ⟨e4, e5, l2⟩, ⟨e6, l3⟩, ⟨e7, l4⟩⟩ := hSw; go_simp⟩) ?_
              simp only [Act.put]
              refine HeadW.takeA 9 (v := .slice (some ⟨b, off, none⟩) N c) rfl (by kernel_rfl) rfl (by decide) (fun _ _ _ hL => seqB_ready hL.1) (by kernel_rfl) (by kernel_rfl) (fun _ _ _ h => h) HSC.out (.inl ⟨by kernel_rfl, by intro w hSw; rw [HSd.out] at hSw; obtain ⟨⟨e0, l0⟩, ⟨e1, e2, e3, l1⟩, ⟨e4, e5, l2⟩, ⟨e6, l3⟩, ⟨e7, l4⟩⟩ := hSw; go_simp⟩) ?_
              simp only [Act.put]
              refine HeadW.takeA 10 (v := .int .i64 (j : Int)) rfl (by kernel_rfl) rfl (by decide) (fun _ _ _ hL => seqB_ready hL.1) (by kernel_rfl) (by kernel_rfl) (fun _ _ _ h => h) HSC.out (.inl ⟨by kernel_rfl, by intro w hSw; rw [HSd.out] at hSw; obtain ⟨⟨e0, l0⟩, ⟨e1, e2, e3, l1⟩, ⟨e4, e5, l2⟩, ⟨e6, l3⟩, ⟨e7, l4⟩⟩ := hSw; go_simp⟩) ?_
              simp only [Act.put]
              refine HeadW.takeA 11 (v := .pointer (some ⟨b, off + j, none⟩)) rfl (by kernel_rfl) rfl (by decide) (fun _ _ _ hL => seqB_ready hL.1) (by kernel_rfl) (by kernel_rfl) (fun _ _ _ h => h) HSC.out (.inl ⟨by kernel_rfl, by intro w hSw; rw [HSd.out] at hSw; obtain ⟨⟨e0, l0⟩, ⟨e1, e2, e3, l1⟩, ⟨e4, e5, l2⟩, ⟨e6, l3⟩, ⟨e7, l4⟩⟩ := hSw; go_simp⟩) ?_
              simp only [Act.put]
              refine HeadW.takeA 12 (v := .int .i64 x) rfl (by kernel_rfl) rfl (by decide) (fun _ _ _ hL => seqB_ready hL.1) (by kernel_rfl) (by kernel_rfl) (fun _ _ _ h => h) HSC.out (.inl ⟨by kernel_rfl, by intro w hSw; rw [HSd.out] at hSw; obtain ⟨⟨e0, l0⟩, ⟨e1, e2, e3, l1⟩, ⟨e4, e5, l2⟩, ⟨e6, l3⟩, ⟨e7, l4⟩⟩ := hSw; go_simp⟩) ?_
              simp only [Act.put]
              refine headW_one 8 rfl (by decide) (by kernel_rfl) (by kernel_rfl) fun K hK => ?_
              go_simp
              refine HWn.out.mono ?_
              rintro e w6 ⟨rfl, hb6⟩
              have hb56 : Below w5.heap.size w5 w6 := (Below.refl _ w5).drew.trans hb6
              have HB56 := Lib.hid hb56
              have hSC6 : SC w6 := by
                have h := HSC.out
                rw [HSd.out] at h ⊢
                obtain ⟨⟨e0, l0⟩, ⟨e1, e2, e3, l1⟩, ⟨e4, e5, l2⟩, ⟨e6, l3⟩, ⟨e7, l4⟩⟩ := h
                obtain ⟨hc, -⟩ := bcell hb56
                have hz := hb56.size
                exact ⟨⟨(hc _ _ l0).trans e0, by omega⟩, ⟨(hc _ _ l1).trans e1, (hc _ _ l1).trans e2, (hc _ _ l1).trans e3, by omega⟩, ⟨(hc _ _ l2).trans e4, (hc _ _ l2).trans e5, by omega⟩, ⟨(hc _ _ l3).trans e6, by omega⟩, ⟨(hc _ _ l4).trans e7, by omega⟩⟩
              refine hK.out _ _ hSC6 (fun hHeld => ?_)
              clear hK K hHeld hb6 hb56
              refine HeadW.takeA 13 (v := .bool false) rfl (by kernel_rfl) rfl (by decide) (fun _ _ _ hL => seqB_ready hL.1) (by kernel_rfl) (by kernel_rfl) (fun _ _ _ h => h) hSC6 (.inl ⟨by kernel_rfl, by intro w hSw; rw [HSd.out] at hSw; obtain ⟨⟨e0, l0⟩, ⟨e1, e2, e3, l1⟩, ⟨e4, e5, l2⟩, ⟨e6, l3⟩, ⟨e7, l4⟩⟩ := hSw; go_simp⟩) ?_
              simp only [Act.put]
              refine HeadW.takeA 14 (v := .bool false) rfl (by kernel_rfl) rfl (by decide) (fun _ _ _ hL => seqB_ready hL.1) (by kernel_rfl) (by kernel_rfl) (fun _ _ _ h => h) hSC6 (.inl ⟨by kernel_rfl, by intro w hSw; rw [HSd.out] at hSw; obtain ⟨⟨e0, l0⟩, ⟨e1, e2, e3, l1⟩, ⟨e4, e5, l2⟩, ⟨e6, l3⟩, ⟨e7, l4⟩⟩ := hSw; go_simp⟩) ?_
              simp only [Act.put]
              refine HeadW.takeA 15 (v := .bool false) rfl (by kernel_rfl) rfl (by decide) (fun _ _ _ hL => seqB_ready hL.1) (by kernel_rfl) (by kernel_rfl) (fun _ _ _ h => h) hSC6 (.inl ⟨by kernel_rfl, by intro w hSw; rw [HSd.out] at hSw; obtain ⟨⟨e0, l0⟩, ⟨e1, e2, e3, l1⟩, ⟨e4, e5, l2⟩, ⟨e6, l3⟩, ⟨e7, l4⟩⟩ := hSw; go_simp⟩) ?_
              simp only [Act.put]
              refine HeadW.takeA 16 (v := .int .i64 bh) rfl (by kernel_rfl) rfl (by decide) (fun _ _ _ hL => seqB_ready hL.1) (by kernel_rfl) (by kernel_rfl) (fun _ _ _ h => h) hSC6 (.inl ⟨by kernel_rfl, by intro w hSw; rw [HSd.out] at hSw; obtain ⟨⟨e0, l0⟩, ⟨e1, e2, e3, l1⟩, ⟨e4, e5, l2⟩, ⟨e6, l3⟩, ⟨e7, l4⟩⟩ := hSw; go_simp⟩) ?_
              simp only [Act.put]
              refine HeadW.takeA 17 (v := .bool false) rfl (by kernel_rfl) rfl (by decide) (fun _ _ _ hL => seqB_ready hL.1) (by kernel_rfl) (by kernel_rfl) (fun _ _ _ h => h) hSC6 (.inl ⟨by kernel_rfl, by intro w hSw; rw [HSd.out] at hSw; obtain ⟨⟨e0, l0⟩, ⟨e1, e2, e3, l1⟩, ⟨e4, e5, l2⟩, ⟨e6, l3⟩, ⟨e7, l4⟩⟩ := hSw; go_simp⟩) ?_
              simp only [Act.put]
              refine HeadW.takeA 18 (v := .bool false) rfl (by kernel_rfl) rfl (by decide) (fun _ _ _ hL => seqB_ready hL.1) (by kernel_rfl) (by kernel_rfl) (fun _ _ _ h => h) hSC6 (.inl ⟨by kernel_rfl, by intro w hSw; rw [HSd.out] at hSw; obtain ⟨⟨e0, l0⟩, ⟨e1, e2, e3, l1⟩, ⟨e4, e5, l2⟩, ⟨e6, l3⟩, ⟨e7, l4⟩⟩ := hSw; go_simp⟩) ?_
              simp only [Act.put]
              refine HeadW.takeA 19 (v := .bool false) rfl (by kernel_rfl) rfl (by decide) (fun _ _ _ hL => seqB_ready hL.1) (by kernel_rfl) (by kernel_rfl) (fun _ _ _ h => h) hSC6 (.inl ⟨by kernel_rfl, by intro w hSw; rw [HSd.out] at hSw; obtain ⟨⟨e0, l0⟩, ⟨e1, e2, e3, l1⟩, ⟨e4, e5, l2⟩, ⟨e6, l3⟩, ⟨e7, l4⟩⟩ := hSw; go_simp⟩) ?_
              simp only [Act.put]
              refine HeadW.takeA 20 (v := .slice (some ⟨b1, off1, none⟩) N g.c) rfl (by kernel_rfl) rfl (by decide) (fun _ _ _ hL => seqB_ready hL.1) (by kernel_rfl) (by kernel_rfl) (fun _ _ _ h => h) hSC6 (.inl ⟨by kernel_rfl, by intro w hSw; rw [HSd.out] at hSw; obtain ⟨⟨e0, l0⟩, ⟨e1, e2, e3, l1⟩, ⟨e4, e5, l2⟩, ⟨e6, l3⟩, ⟨e7, l4⟩⟩ := hSw; go_simp⟩) ?_
              simp only [Act.put]
              refine HeadW.takeA 21 (v := .int .i64 (j : Int)) rfl (by kernel_rfl) rfl (by decide) (fun _ _ _ hL => seqB_ready hL.1) (by kernel_rfl) (by kernel_rfl) (fun _ _ _ h => h) hSC6 (.inl ⟨by kernel_rfl, by intro w hSw; rw [HSd.out] at hSw; obtain ⟨⟨e0, l0⟩, ⟨e1, e2, e3, l1⟩, ⟨e4, e5, l2⟩, ⟨e6, l3⟩, ⟨e7, l4⟩⟩ := hSw; go_simp⟩) ?_
              simp only [Act.put]
              refine HeadW.takeA 22 (v := .pointer (some ⟨b1, off1 + j * 2, none⟩)) rfl (by kernel_rfl) rfl (by decide) (fun _ _ _ hL => seqB_ready hL.1) (by kernel_rfl) (by kernel_rfl) (fun _ _ _ h => h) hSC6 (.inl ⟨by kernel_rfl, by intro w hSw; rw [HSd.out] at hSw; obtain ⟨⟨e0, l0⟩, ⟨e1, e2, e3, l1⟩, ⟨e4, e5, l2⟩, ⟨e6, l3⟩, ⟨e7, l4⟩⟩ := hSw; go_simp⟩) ?_
              simp only [Act.put]
              refine HeadW.takeA 23 (v := .pointer (some ⟨b1, off1 + j * 2, none⟩)) rfl (by kernel_rfl) rfl (by decide) (fun _ _ _ hL => seqB_ready hL.1) (by kernel_rfl) (by kernel_rfl) (fun _ _ _ h => h) hSC6 (.inl ⟨by kernel_rfl, by intro w hSw; rw [HSd.out] at hSw; obtain ⟨⟨e0, l0⟩, ⟨e1, e2, e3, l1⟩, ⟨e4, e5, l2⟩, ⟨e6, l3⟩, ⟨e7, l4⟩⟩ := hSw; go_simp⟩) ?_
              simp only [Act.put]
              refine HeadW.takeA 24 (v := .int .i64 18) rfl (by kernel_rfl) rfl (by decide) (fun _ _ _ hL => seqB_ready hL.1) (by kernel_rfl) (by kernel_rfl) (fun _ _ _ h => h) hSC6 (.inl ⟨by kernel_rfl, by intro w hSw; rw [HSd.out] at hSw; obtain ⟨⟨e0, l0⟩, ⟨e1, e2, e3, l1⟩, ⟨e4, e5, l2⟩, ⟨e6, l3⟩, ⟨e7, l4⟩⟩ := hSw; go_simp⟩) ?_
              simp only [Act.put]
              refine HeadW.takeA 25 (v := .bool true) rfl (by kernel_rfl) rfl (by decide) (fun _ _ _ hL => seqB_ready hL.1) (by kernel_rfl) (by kernel_rfl) (fun _ _ _ h => h) hSC6 (.inl ⟨by kernel_rfl, by intro w hSw; rw [HSd.out] at hSw; obtain ⟨⟨e0, l0⟩, ⟨e1, e2, e3, l1⟩, ⟨e4, e5, l2⟩, ⟨e6, l3⟩, ⟨e7, l4⟩⟩ := hSw; go_simp⟩) ?_
              simp only [Act.put]
              refine HeadW.takeA 26 (v := .bool true) rfl (by kernel_rfl) rfl (by decide) (fun _ _ _ hL => seqB_ready hL.1) (by kernel_rfl) (by kernel_rfl) (fun _ _ _ h => h) hSC6 (.inl ⟨by kernel_rfl, by intro w hSw; rw [HSd.out] at hSw; obtain ⟨⟨e0, l0⟩, ⟨e1, e2, e3, l1⟩, ⟨e4, e5, l2⟩, ⟨e6, l3⟩, ⟨e7, l4⟩⟩ := hSw; go_simp⟩) ?_
              simp only [Act.put]
              refine HeadW.takeA 27 (v := .slice (some ⟨b, off, none⟩) N c) rfl (by kernel_rfl) rfl (by decide) (fun _ _ _ hL => seqB_ready hL.1) (by kernel_rfl) (by kernel_rfl) (fun _ _ _ h => h) hSC6 (.inl ⟨by kernel_rfl, by intro w hSw; rw [HSd.out] at hSw; obtain ⟨⟨e0, l0⟩, ⟨e1, e2, e3, l1⟩, ⟨e4, e5, l2⟩, ⟨e6, l3⟩, ⟨e7, l4⟩⟩ := hSw; go_simp⟩) ?_
              simp only [Act.put]
              refine HeadW.takeA 28 (v := .int .i64 (j : Int)) rfl (by kernel_rfl) rfl (by decide) (fun _ _ _ hL => seqB_ready hL.1) (by kernel_rfl) (by kernel_rfl) (fun _ _ _ h => h) hSC6 (.inl ⟨by kernel_rfl, by intro w hSw; rw [HSd.out] at hSw; obtain ⟨⟨e0, l0⟩, ⟨e1, e2, e3, l1⟩, ⟨e4, e5, l2⟩, ⟨e6, l3⟩, ⟨e7, l4⟩⟩ := hSw; go_simp⟩) ?_
              simp only [Act.put]
              refine HeadW.takeA 29 (v := .pointer (some ⟨b, off + j, none⟩)) rfl (by kernel_rfl) rfl (by decide) (fun _ _ _ hL => seqB_ready hL.1) (by kernel_rfl) (by kernel_rfl) (fun _ _ _ h => h) hSC6 (.inl ⟨by kernel_rfl, by intro w hSw; rw [HSd.out] at hSw; obtain ⟨⟨e0, l0⟩, ⟨e1, e2, e3, l1⟩, ⟨e4, e5, l2⟩, ⟨e6, l3⟩, ⟨e7, l4⟩⟩ := hSw; go_simp⟩) ?_
              simp only [Act.put]
              refine HeadW.takeA 30 (v := .int .i64 x) rfl (by kernel_rfl) rfl (by decide) (fun _ _ _ hL => seqB_ready hL.1) (by kernel_rfl) (by kernel_rfl) (fun _ _ _ h => h) hSC6 (.inl ⟨by kernel_rfl, by intro w hSw; rw [HSd.out] at hSw; obtain ⟨⟨e0, l0⟩, ⟨e1, e2, e3, l1⟩, ⟨e4, e5, l2⟩, ⟨e6, l3⟩, ⟨e7, l4⟩⟩ := hSw; go_simp⟩) ?_
              simp only [Act.put]
              refine HeadW.takeA 31 (v := .pointer (some ⟨gx, 2, none⟩)) rfl (by kernel_rfl) rfl (by decide) (fun _ _ _ hL => seqB_ready hL.1) (by kernel_rfl) (by kernel_rfl) (fun _ _ _ h => h) hSC6 (.inl ⟨by kernel_rfl, by intro w hSw; rw [HSd.out] at hSw; obtain ⟨⟨e0, l0⟩, ⟨e1, e2, e3, l1⟩, ⟨e4, e5, l2⟩, ⟨e6, l3⟩, ⟨e7, l4⟩⟩ := hSw; go_simp⟩) ?_
              simp only [Act.put]
              refine HeadW.takeA 32 (v := .slice (some ⟨b0, off0, none⟩) p.fs.length p.cF) rfl (by kernel_rfl) rfl (by decide) (fun _ _ _ hL => seqB_ready hL.1) (by kernel_rfl) (by kernel_rfl) (fun _ _ _ h => h) hSC6 (.inl ⟨by kernel_rfl, by intro w hSw; rw [HSd.out] at hSw; obtain ⟨⟨e0, l0⟩, ⟨e1, e2, e3, l1⟩, ⟨e4, e5, l2⟩, ⟨e6, l3⟩, ⟨e7, l4⟩⟩ := hSw; go_simp⟩) ?_
              simp only [Act.put]
              refine HeadW.takeA 33 (v := .int .i64 (f : Int)) rfl (by kernel_rfl) rfl (by decide) (fun _ _ _ hL => seqB_ready hL.1) (by kernel_rfl) (by kernel_rfl) (fun _ _ _ h => h) hSC6 (.inl ⟨by kernel_rfl, by intro w hSw; rw [HSd.out] at hSw; obtain ⟨⟨e0, l0⟩, ⟨e1, e2, e3, l1⟩, ⟨e4, e5, l2⟩, ⟨e6, l3⟩, ⟨e7, l4⟩⟩ := hSw; go_simp⟩) ?_
              simp only [Act.put]
              refine HeadW.takeA 34 (v := .pointer (some ⟨b0, off0 + f * 4, none⟩)) rfl (by kernel_rfl) rfl (by decide) (fun _ _ _ hL => seqB_ready hL.1) (by kernel_rfl) (by kernel_rfl) (fun _ _ _ h => h) hSC6 (.inl ⟨by kernel_rfl, by intro w hSw; rw [HSd.out] at hSw; obtain ⟨⟨e0, l0⟩, ⟨e1, e2, e3, l1⟩, ⟨e4, e5, l2⟩, ⟨e6, l3⟩, ⟨e7, l4⟩⟩ := hSw; go_simp⟩) ?_
              simp only [Act.put]
              refine HeadW.takeA 35 (v := .pointer (some ⟨b0, off0 + f * 4 + 2, none⟩)) rfl (by kernel_rfl) rfl (by decide) (fun _ _ _ hL => seqB_ready hL.1) (by kernel_rfl) (by kernel_rfl) (fun _ _ _ h => h) hSC6 (.inl ⟨by kernel_rfl, by intro w hSw; rw [HSd.out] at hSw; obtain ⟨⟨e0, l0⟩, ⟨e1, e2, e3, l1⟩, ⟨e4, e5, l2⟩, ⟨e6, l3⟩, ⟨e7, l4⟩⟩ := hSw; go_simp⟩) ?_
              simp only [Act.put]
              refine HeadW.takeA 36 (v := .int .i64 x) rfl (by kernel_rfl) rfl (by decide) (fun _ _ _ hL => seqB_ready hL.1) (by kernel_rfl) (by kernel_rfl) (fun _ _ _ h => h) hSC6 (.inl ⟨by kernel_rfl, by intro w hSw; rw [HSd.out] at hSw; obtain ⟨⟨e0, l0⟩, ⟨e1, e2, e3, l1⟩, ⟨e4, e5, l2⟩, ⟨e6, l3⟩, ⟨e7, l4⟩⟩ := hSw; go_simp⟩) ?_
              simp only [Act.put]
              refine HeadW.takeA 37 (v := .bool false) rfl (by kernel_rfl) rfl (by decide) (fun _ _ _ hL => seqB_ready hL.1) (by kernel_rfl) (by kernel_rfl) (fun _ _ _ h => h) hSC6 (.inl ⟨by kernel_rfl, by intro w hSw; rw [HSd.out] at hSw; obtain ⟨⟨e0, l0⟩, ⟨e1, e2, e3, l1⟩, ⟨e4, e5, l2⟩, ⟨e6, l3⟩, ⟨e7, l4⟩⟩ := hSw; go_simp⟩) ?_
              simp only [Act.put]
              refine HeadW.takeA 38 (v := .bool false) rfl (by kernel_rfl) rfl (by decide) (fun _ _ _ hL => seqB_ready hL.1) (by kernel_rfl) (by kernel_rfl) (fun _ _ _ h => h) hSC6 (.inl ⟨by kernel_rfl, by intro w hSw; rw [HSd.out] at hSw; obtain ⟨⟨e0, l0⟩, ⟨e1, e2, e3, l1⟩, ⟨e4, e5, l2⟩, ⟨e6, l3⟩, ⟨e7, l4⟩⟩ := hSw; go_simp⟩) ?_
              simp only [Act.put]
              refine HeadW.takeA 39 (v := .bool false) rfl (by kernel_rfl) rfl (by decide) (fun _ _ _ hL => seqB_ready hL.1) (by kernel_rfl) (by kernel_rfl) (fun _ _ _ h => h) hSC6 (.inl ⟨by kernel_rfl, by intro w hSw; rw [HSd.out] at hSw; obtain ⟨⟨e0, l0⟩, ⟨e1, e2, e3, l1⟩, ⟨e4, e5, l2⟩, ⟨e6, l3⟩, ⟨e7, l4⟩⟩ := hSw; go_simp⟩) ?_
              simp only [Act.put]
              simp only [List.getElem_toArray, List.getElem_cons_succ, List.getElem_cons_zero, List.setIfInBounds_toArray, List.set_cons_succ, List.set_cons_zero]
              refine fun hInv => ⟨by kernel_rfl, ?_⟩
              clear hInv
              simp only [List.drop_succ_cons, List.drop_zero]
              clear HSC HSd hSC6
              clear SC
              have hz6 := HB56.out.size
              have Hby6 := Lib.hid (show Below wy.heap.size wy w6 from Hby5.out.trans (HB56.out.mono Hby5.out.size))
              have hX6 := HX5.out.below HB56.out HX5.out.lt
              have hS6 := HS5.out.below HB56.out HS5.out.lt
              have hP6 := HP5.out.below HB56.out
              have y0 : w6.cell? ⟨gx, 0, none⟩ = some (.int .i64 p.mem) := hX6.cell 0
              have y1 : w6.cell? ⟨gx, 1, none⟩ = some (.slice p.AD p.data.length p.cD) := hX6.cell 1
              have y2 : w6.cell? ⟨gx, 2, none⟩ = some (.slice p.AF p.fs.length p.cF) := hX6.cell 2
              have yl := hX6.lt
              have z0 : w6.cell? ⟨gP, 0, none⟩ = some (.int .i64 (f : Int)) := hS6.cell 0
              have z1 : w6.cell? ⟨gP, 1, none⟩ = some (.int .i64 (j : Int)) := hS6.cell 1
              have zl := hS6.lt
              have hx6 : w6.cell? ⟨b, off + j, none⟩ = some (.int .i64 x) := ((bcell HB56.out).1 _ _ hbl5).trans hx5
              have hbl6 : b < w6.heap.size := by omega
              have hmx := run_max3 mj x bh
              have HNx := Lib.hid (next_any p f j w6 hP6)
              have HP6 := Lib.hid hP6
              have Hi6 := Lib.hid (show w6.cell? ⟨b1, off1 + j * 2, none⟩ = some (.int .i64 18) ∧ w6.cell? ⟨b1, off1 + j * 2 + 1, none⟩ = some (.int .i64 aa) ∧ b1 < w6.heap.size from ⟨((bcell HB56.out).1 _ _ hb1').trans o0, ((bcell HB56.out).1 _ _ hb1').trans o1, by omega⟩)
              clear hX6 hS6 hP6 x05 x15 x25 xl5 s05 s15 sl5 o0 o1 hx5 hbl5 hz6
              go_upto_region 20 with (fail)
              clear hmx hx6
              go_wp2_with fail
              refine HNx.out.mono ?_
              rintro e w7 ⟨A7, c7, rfl, ho7, hb7⟩
              obtain ⟨m, hm⟩ : ∃ m, m = (nextL p.plain f j).length := ⟨_, rfl⟩
              have hm2 : m ≤ 2 := by rw [hm]; exact nextL_len _ _ _
              rw [← hm]
              have Hm := Lib.hid (show m = (nxF p.plain f j).length from by rw [hm]; unfold nxF; rw [List.length_map])
              have Hm1 := Lib.hid hm
              have i0 : w7.cell? ⟨b1, off1 + j * 2, none⟩ = some (.int .i64 18) := ((bcell hb7).1 _ _ Hi6.out.2.2).trans Hi6.out.1
              have i1 : w7.cell? ⟨b1, off1 + j * 2 + 1, none⟩ = some (.int .i64 aa) := ((bcell hb7).1 _ _ Hi6.out.2.2).trans Hi6.out.2.1
              have il : b1 < w7.heap.size := by have := hb7.size; have := Hi6.out.2.2; omega
              have Ho7 := Lib.hid ho7
              have Hb7 := Lib.hid hb7
              have HEn := Lib.hid (ends13_any ⟨18, aa⟩ w7)
              obtain ⟨en, hen⟩ : ∃ x, x = endsI ⟨18, aa⟩ := ⟨_, rfl⟩
              rw [← hen] at HEn
              have hne : en = false → ¬ m = 0 := fun e => by
                rw [hm, Hnx.out]
                rw [hen] at e
                exact ends_goes e
              have Hne := Lib.hid hne
              have hn7 : w6.heap.size ≤ w7.heap.size := hb7.size
              clear hm ho7 hb7 hne hen y0 y1 y2 yl z0 z1 zl
              go_wp2_with fail
              refine HEn.out.mono ?_
              rintro e w8 ⟨rfl, hb8⟩
              have Ho8 := Lib.hid (Own.below Ho7.out hb8 (Nat.le_refl _))
              have Hby8 := Lib.hid (show Below wy.heap.size wy w8 from Hby6.out.trans ((Hb7.out.trans (hb8.mono hn7)).mono Hby6.out.size))
              have hgC8 : gC < wy.heap.size := (Own.row HCj.out gC rfl).2
              have HgC8 := Lib.hid hgC8
              have HC8 := Lib.hid (Own.below HCj.out Hby8.out (Nat.le_refl _))
              have HO8 := Lib.hid (HOj.out.trans (Only.of_fresh Hby8.out))
              have Hz68 := Lib.hid (show w6.heap.size ≤ w8.heap.size ∧ wy.heap.size ≤ w6.heap.size from ⟨by have := hb8.size; omega, Hby6.out.size⟩)
              have hle := HT.out.le j x Hx1.out (by omega)
              have hbnow : nowI p.plain f j x = bh := by unfold nowI; exact Hbh.out.symm
              have HS8 := Lib.hid (show CmS p.plain f top cj (max mj (max x bh)) from ⟨HSj.out.len, HSj.out.zero, HSj.out.reach, by have := HSj.out.lo; omega, by
                have h1 := HSj.out.hi
                have h2 := hle.1
                have h3 : nowI p.plain f j x ≤ top := hle.2
                rw [hbnow] at h3
                omega⟩)
              have Hmj := Lib.hid (show mj ≤ max mj (max x bh) ∧ x ≤ max mj (max x bh) ∧ nowI p.plain f j x ≤ max mj (max x bh) from ⟨by omega, by omega, by rw [hbnow]; omega⟩)
              obtain ⟨mk, hmk⟩ : ∃ y, y = max mj (max x bh) := ⟨_, rfl⟩
              rw [← hmk] at HS8 Hmj ⊢
              clear hmk hle hbnow hb8 hgC8 i0 i1 il hbl6
              have hgoto : ∀ (en : Bool), (en = false → ¬ m = 0) → True := fun _ _ => trivial
              clear hgoto
              cases en with
              | true =>
                go_wp2_with fail
                go_loopw [12, 19] (fun ag i wz => ∃ (k : Nat) (ck : List Bool) (ak : Bool), k ≤ m ∧ i = .int .i64 (k : Int) ∧ ag = .bool ak ∧ Hid (CmS p.plain f top ck mk) ∧ OwnL wz 0 (some ⟨gC, 0, none⟩) N N ck ∧ Only (fun k => k = gC) w8 wz ∧ Hid (ck[j]? = some true) ∧
                  Hid ((ak = aj ∧ ck = cj ∧ ∀ (q : Nat) u, q < k → (nxF p.plain f j)[q]? = some u → cj[u]? = some true) ∨ (ak = true ∧ falses ck < falses cj))) (fun _ i _ => m - (intOf i).toNat)
                case atStart => exact ⟨0, cj, aj, Nat.zero_le _, rfl, rfl, HS8, HC8.out, Only.refl _ _, Hv, Lib.hid (.inl ⟨rfl, rfl, fun q u hq => by omega⟩)⟩
                case round =>
                  rename World => wz
                  obtain ⟨k, ck, ak, hk, rfl, rfl, HSk, hCk, hOk, HVk, HDk⟩ := hrel
                  have HCk := Lib.hid hCk
                  have HOk := Lib.hid hOk
                  by_cases hlt3 : k < m
                  · have g7 : (k : Int) < (m : Int) := by omega
                    have hkn : k < (nxF p.plain f j).length := by rw [← Hm.out]; exact hlt3
                    have hkn1 : k < (nextL p.plain f j).length := by rw [← Hm1.out]; exact hlt3
                    obtain ⟨u, hu⟩ : ∃ u, u = (nxF p.plain f j)[k] := ⟨_, rfl⟩
                    have hum : u ∈ nxF p.plain f j := by rw [hu]; exact List.getElem_mem hkn
                    have huN : u < N := by rw [HNl.out]; exact nxF_lt hum
                    have hu1 : (nextL p.plain f j)[k] = (u : Int) := by
                      have h0 : 0 ≤ (nextL p.plain f j)[k] := by
                        have h1 : (nextL p.plain f j)[k] ∈ goesL ⟨18, aa⟩ j := by rw [← Hnx.out]; exact List.getElem_mem hkn1
                        exact HI.out.goes _ h1
                      have h2 : (nxF p.plain f j)[k]? = some ((nextL p.plain f j)[k]).toNat := by unfold nxF; rw [List.getElem?_map, List.getElem?_eq_getElem hkn1]; rfl
                      have h3 := (List.getElem?_eq_some_iff.1 h2).2
                      rw [hu, h3]
                      omega
                    have hrow : RV wz A7 ((nextL p.plain f j).map iv) := (RV.of_own Ho8.out).only hOk fun _ b o e e2 => by
                      have h1 := (Own.row Ho8.out b (by rw [e]; rfl)).1
                      have h2 := Hz68.out
                      have h3 := HgC8.out
                      change w6.heap.size ≤ b at h1
                      omega
                    obtain ⟨rb, ro, rfl, hrl, hrc⟩ := hrow.at_ (by rw [List.length_map]; omega)
                    have r0 := hrc k (.int .i64 (u : Int)) (by rw [List.getElem?_map, List.getElem?_eq_getElem hkn1, hu1]; rfl)
                    obtain ⟨xu, hxu1, hxu2⟩ := Hx.out u huN
                    have hxe : xu = bh := by
                      have h1 := Hgo.out u (nxF_go Hi.out hum)
                      rw [hxu1] at h1
                      exact Option.some.inj h1
                    subst hxe
                    have hq : wz.cell? ⟨b, off + u, none⟩ = some (.int .i64 xu) := ((HO8.out.trans hOk).cell (p := ⟨b, off + u, none⟩) hbl hbC).trans hxu2
                    have hbz : b < wz.heap.size := by have := (HO8.out.trans hOk).size; omega
                    have huN2 : (u : Int) < (N : Int) := by omega
                    have hul : u < ck.length := by rw [HSk.out.len, ← HNl.out]; exact huN
                    have c0 := OwnL.at_ hCk u hul
                    obtain ⟨cf, cl⟩ := OwnL.room hCk u hul
                    obtain ⟨v, hv⟩ : ∃ v, v = ck[u] := ⟨_, rfl⟩
                    rw [← hv] at c0
                    have Hvu := Lib.hid (show ck[u]? = some v from by rw [hv]; exact List.getElem?_eq_getElem hul)
                    have Hum := Lib.hid hum
                    have HuK := Lib.hid (show (nxF p.plain f j)[k]? = some u from by rw [hu]; exact List.getElem?_eq_getElem hkn)
                    clear hv hrow hrc hu1 hum hu hkn hkn1 hxu1 hxu2 hCk hOk
                    cases v with
                    | true =>
                      go_wp2_with fail
                      refine ⟨⟨k + 1, ck, ak, by omega, rfl, rfl, HSk, HCk.out, HOk.out, HVk, Lib.hid ?_⟩, ?_⟩
                      · rcases HDk.out with ⟨h1, h2, h3⟩ | h1
                        · refine .inl ⟨h1, h2, fun q y hq hy => ?_⟩
                          by_cases e : q = k
                          · subst e
                            rw [HuK.out] at hy
                            injection hy with hy
                            rw [← hy, ← h2]
                            exact Hvu.out
                          · exact h3 q y (by omega) hy
                        · exact .inr h1
                      · simp [intOf]; omega
                    | false =>
                      have HCp := Lib.hid (HCk.out.put u true)
                      have HOp := Lib.hid (HOk.out.setCell (p := ⟨gC, u, none⟩) (.inl rfl) (.bool true))
                      have HSp := Lib.hid (HSk.out.put HVk.out Hum.out)
                      have HFs := Lib.hid (falses_set Hvu.out)
                      go_wp2_with fail
                      refine ⟨⟨k + 1, ck.set u true, true, by omega, rfl, rfl, HSp, HCp.out, HOp.out, Lib.hid (cm_mono HVk.out), Lib.hid (.inr ⟨rfl, ?_⟩)⟩, ?_⟩
                      · have h1 := HFs.out
                        rcases HDk.out with ⟨-, h2, -⟩ | ⟨-, h2⟩
                        · rw [h2] at h1 ⊢; omega
                        · omega
                      · simp [intOf]; omega
                  · obtain rfl : k = m := by omega
                    clear hCk hOk
                    go_wp2_with fail
                    refine ⟨⟨j + 1, ck, mk, ak, by omega, rfl, rfl, rfl, HSk, HCk.out, HO8.out.trans HOk.out, Lib.hid ?_⟩, ?_⟩
                    · rcases HDk.out with ⟨h1, h2, h3⟩ | ⟨h1, h2⟩
                      · rcases HD.out with ⟨k1, k2, k3⟩ | ⟨k1, k2⟩
                        · refine .inl ⟨h1.trans k1, h2.trans k2, fun q hq hcq => ?_⟩
                          by_cases e : q = j
                          · subst e
                            refine ⟨fun u hu => ?_, fun y hy => ?_⟩
                            · obtain ⟨t, ht, hte⟩ := List.getElem_of_mem hu
                              rw [h2]
                              exact h3 t u (by rw [Hm.out]; exact ht) (by rw [← hte]; exact List.getElem?_eq_getElem ht)
                            · rw [Hx1.out] at hy
                              injection hy with hy
                              rw [← hy]
                              exact ⟨Hmj.out.2.1, Hmj.out.2.2⟩
                          · have h4 := k3 q (by omega) (by rw [← h2]; exact hcq)
                            refine ⟨fun u hu => by rw [h2]; exact h4.1 u hu, fun y hy => ?_⟩
                            have h5 := h4.2 y hy
                            have h6 := Hmj.out.1
                            omega
                        · exact .inr ⟨h1.trans k1, by rw [h2]; exact k2⟩
                      · rcases HD.out with ⟨-, k2, -⟩ | ⟨-, k2⟩
                        · exact .inr ⟨h1, by rw [← k2]; exact h2⟩
                        · exact .inr ⟨h1, by omega⟩
                    · simp [intOf]; omega
              | false =>
                have hm0 := Hne.out rfl
                have hm0' : ¬ (m : Int) = 0 := by omega
                have hm0b : ((m : Int) == 0) = false := by simpa using hm0
                go_wp2_with fail
                clear hm0 hm0' hm0b
                go_loopw [12, 19] (fun ag i wz => ∃ (k : Nat) (ck : List Bool) (ak : Bool), k ≤ m ∧ i = .int .i64 (k : Int) ∧ ag = .bool ak ∧ Hid (CmS p.plain f top ck mk) ∧ OwnL wz 0 (some ⟨gC, 0, none⟩) N N ck ∧ Only (fun k => k = gC) w8 wz ∧ Hid (ck[j]? = some true) ∧
                  Hid ((ak = aj ∧ ck = cj ∧ ∀ (q : Nat) u, q < k → (nxF p.plain f j)[q]? = some u → cj[u]? = some true) ∨ (ak = true ∧ falses ck < falses cj))) (fun _ i _ => m - (intOf i).toNat)
                case atStart => exact ⟨0, cj, aj, Nat.zero_le _, rfl, rfl, HS8, HC8.out, Only.refl _ _, Hv, Lib.hid (.inl ⟨rfl, rfl, fun q u hq => by omega⟩)⟩
                case round =>
                  rename World => wz
                  obtain ⟨k, ck, ak, hk, rfl, rfl, HSk, hCk, hOk, HVk, HDk⟩ := hrel
                  have HCk := Lib.hid hCk
                  have HOk := Lib.hid hOk
                  by_cases hlt3 : k < m
                  · have g7 : (k : Int) < (m : Int) := by omega
                    have hkn : k < (nxF p.plain f j).length := by rw [← Hm.out]; exact hlt3
                    have hkn1 : k < (nextL p.plain f j).length := by rw [← Hm1.out]; exact hlt3
                    obtain ⟨u, hu⟩ : ∃ u, u = (nxF p.plain f j)[k] := ⟨_, rfl⟩
                    have hum : u ∈ nxF p.plain f j := by rw [hu]; exact List.getElem_mem hkn
                    have huN : u < N := by rw [HNl.out]; exact nxF_lt hum
                    have hu1 : (nextL p.plain f j)[k] = (u : Int) := by
                      have h0 : 0 ≤ (nextL p.plain f j)[k] := by
                        have h1 : (nextL p.plain f j)[k] ∈ goesL ⟨18, aa⟩ j := by rw [← Hnx.out]; exact List.getElem_mem hkn1
                        exact HI.out.goes _ h1
                      have h2 : (nxF p.plain f j)[k]? = some ((nextL p.plain f j)[k]).toNat := by unfold nxF; rw [List.getElem?_map, List.getElem?_eq_getElem hkn1]; rfl
                      have h3 := (List.getElem?_eq_some_iff.1 h2).2
                      rw [hu, h3]
                      omega
                    have hrow : RV wz A7 ((nextL p.plain f j).map iv) := (RV.of_own Ho8.out).only hOk fun _ b o e e2 => by
                      have h1 := (Own.row Ho8.out b (by rw [e]; rfl)).1
                      have h2 := Hz68.out
                      have h3 := HgC8.out
                      change w6.heap.size ≤ b at h1
                      omega
                    obtain ⟨rb, ro, rfl, hrl, hrc⟩ := hrow.at_ (by rw [List.length_map]; omega)
                    have r0 := hrc k (.int .i64 (u : Int)) (by rw [List.getElem?_map, List.getElem?_eq_getElem hkn1, hu1]; rfl)
                    obtain ⟨xu, hxu1, hxu2⟩ := Hx.out u huN
                    have hxe : xu = bh := by
                      have h1 := Hgo.out u (nxF_go Hi.out hum)
                      rw [hxu1] at h1
                      exact Option.some.inj h1
                    subst hxe
                    have hq : wz.cell? ⟨b, off + u, none⟩ = some (.int .i64 xu) := ((HO8.out.trans hOk).cell (p := ⟨b, off + u, none⟩) hbl hbC).trans hxu2
                    have hbz : b < wz.heap.size := by have := (HO8.out.trans hOk).size; omega
                    have huN2 : (u : Int) < (N : Int) := by omega
                    have hul : u < ck.length := by rw [HSk.out.len, ← HNl.out]; exact huN
                    have c0 := OwnL.at_ hCk u hul
                    obtain ⟨cf, cl⟩ := OwnL.room hCk u hul
                    obtain ⟨v, hv⟩ : ∃ v, v = ck[u] := ⟨_, rfl⟩
                    rw [← hv] at c0
                    have Hvu := Lib.hid (show ck[u]? = some v from by rw [hv]; exact List.getElem?_eq_getElem hul)
                    have Hum := Lib.hid hum
                    have HuK := Lib.hid (show (nxF p.plain f j)[k]? = some u from by rw [hu]; exact List.getElem?_eq_getElem hkn)
                    clear hv hrow hrc hu1 hum hu hkn hkn1 hxu1 hxu2 hCk hOk
                    cases v with
                    | true =>
                      go_wp2_with fail
                      refine ⟨⟨k + 1, ck, ak, by omega, rfl, rfl, HSk, HCk.out, HOk.out, HVk, Lib.hid ?_⟩, ?_⟩
                      · rcases HDk.out with ⟨h1, h2, h3⟩ | h1
                        · refine .inl ⟨h1, h2, fun q y hq hy => ?_⟩
                          by_cases e : q = k
                          · subst e
                            rw [HuK.out] at hy
                            injection hy with hy
                            rw [← hy, ← h2]
                            exact Hvu.out
                          · exact h3 q y (by omega) hy
                        · exact .inr h1
                      · simp [intOf]; omega
                    | false =>
                      have HCp := Lib.hid (HCk.out.put u true)
                      have HOp := Lib.hid (HOk.out.setCell (p := ⟨gC, u, none⟩) (.inl rfl) (.bool true))
                      have HSp := Lib.hid (HSk.out.put HVk.out Hum.out)
                      have HFs := Lib.hid (falses_set Hvu.out)
                      go_wp2_with fail
                      refine ⟨⟨k + 1, ck.set u true, true, by omega, rfl, rfl, HSp, HCp.out, HOp.out, Lib.hid (cm_mono HVk.out), Lib.hid (.inr ⟨rfl, ?_⟩)⟩, ?_⟩
                      · have h1 := HFs.out
                        rcases HDk.out with ⟨-, h2, -⟩ | ⟨-, h2⟩
                        · rw [h2] at h1 ⊢; omega
                        · omega
                      · simp [intOf]; omega
                  · obtain rfl : k = m := by omega
                    clear hCk hOk
                    go_wp2_with fail
                    refine ⟨⟨j + 1, ck, mk, ak, by omega, rfl, rfl, rfl, HSk, HCk.out, HO8.out.trans HOk.out, Lib.hid ?_⟩, ?_⟩
                    · rcases HDk.out with ⟨h1, h2, h3⟩ | ⟨h1, h2⟩
                      · rcases HD.out with ⟨k1, k2, k3⟩ | ⟨k1, k2⟩
                        · refine .inl ⟨h1.trans k1, h2.trans k2, fun q hq hcq => ?_⟩
                          by_cases e : q = j
                          · subst e
                            refine ⟨fun u hu => ?_, fun y hy => ?_⟩
                            · obtain ⟨t, ht, hte⟩ := List.getElem_of_mem hu
                              rw [h2]
                              exact h3 t u (by rw [Hm.out]; exact ht) (by rw [← hte]; exact List.getElem?_eq_getElem ht)
                            · rw [Hx1.out] at hy
                              injection hy with hy
                              rw [← hy]
                              exact ⟨Hmj.out.2.1, Hmj.out.2.2⟩
                          · have h4 := k3 q (by omega) (by rw [← h2]; exact hcq)
                            refine ⟨fun u hu => by rw [h2]; exact h4.1 u hu, fun y hy => ?_⟩
                            have h5 := h4.2 y hy
                            have h6 := Hmj.out.1
                            omega
                        · exact .inr ⟨h1.trans k1, by rw [h2]; exact k2⟩
                      · rcases HD.out with ⟨-, k2, -⟩ | ⟨-, k2⟩
                        · exact .inr ⟨h1, by rw [← k2]; exact h2⟩
                        · exact .inr ⟨h1, by omega⟩
                    · simp [intOf]; omega
            · have hop : (op == 18) = false := by simpa using h18
              go_upto_region 17 with (fail)
              obtain ⟨SC, hSCd⟩ : ∃ S : World → Prop, S = fun w' => (w'.cell? ⟨b, off + j, none⟩ = some (.int .i64 x) ∧ b < w'.heap.size) ∧ (w'.cell? ⟨gx, 0, none⟩ = some (.int .i64 p.mem) ∧ w'.cell? ⟨gx, 1, none⟩ = some (.slice p.AD p.data.length p.cD) ∧ w'.cell? ⟨gx, 2, none⟩ = some (.slice (some ⟨b0, off0, none⟩) p.fs.length p.cF) ∧ gx < w'.heap.size) ∧ (w'.cell? ⟨gP, 0, none⟩ = some (.int .i64 (f : Int)) ∧ w'.cell? ⟨gP, 1, none⟩ = some (.int .i64 (j : Int)) ∧ gP < w'.heap.size) ∧ (w'.cell? ⟨b1, off1 + j * 2, none⟩ = some (.int .i64 op) ∧ b1 < w'.heap.size) ∧ True := ⟨_, rfl⟩
              have hSC : SC w5.drew := by rw [hSCd]; exact ⟨⟨hx5, hbl5⟩, ⟨x05, x15, x25, xl5⟩, ⟨s05, s15, sl5⟩, ⟨o0, hb1'⟩, trivial⟩
              have HSC := Lib.hid (show SC w5.drew from hSC)
              have HSd := Lib.hid hSCd
              clear hSC hSCd
              refine region_heldT 40 SC (by kernel_rfl) (by decide) ?_
              refine HeadW.takeA 0 (v := .slice (some ⟨b, off, none⟩) N c) rfl (by kernel_rfl) rfl (by decide) (fun _ _ _ hL => seqB_ready hL.1) (by kernel_rfl) (by kernel_rfl) (fun _ _ _ h => h) HSC.out (.inl ⟨by kernel_rfl, by intro w hSw; rw [HSd.out] at hSw; obtain ⟨⟨e0, l0⟩, ⟨e1, e2, e3, l1⟩, ⟨e4, e5, l2⟩, ⟨e6, l3⟩, -⟩ := hSw; go_simp⟩) ?_
              simp only [Act.put, List.setIfInBounds_toArray]
              refine HeadW.takeA 1 (v := .int .i64 (j : Int)) rfl (by kernel_rfl) rfl (by decide) (fun _ _ _ hL => seqB_ready hL.1) (by kernel_rfl) (by kernel_rfl) (fun _ _ _ h => h) HSC.out (.inl ⟨by kernel_rfl, by intro w hSw; rw [HSd.out] at hSw; obtain ⟨⟨e0, l0⟩, ⟨e1, e2, e3, l1⟩, ⟨e4, e5, l2⟩, ⟨e6, l3⟩, -⟩ := hSw; go_simp⟩) ?_
              simp only [Act.put]
              refine HeadW.takeA 2 (v := .pointer (some ⟨b, off + j, none⟩)) rfl (by kernel_rfl) rfl (by decide) (fun _ _ _ hL => seqB_ready hL.1) (by kernel_rfl) (by kernel_rfl) (fun _ _ _ h => h) HSC.out (.inl ⟨by kernel_rfl, by intro w hSw; rw [HSd.out] at hSw; obtain ⟨⟨e0, l0⟩, ⟨e1, e2, e3, l1⟩, ⟨e4, e5, l2⟩, ⟨e6, l3⟩, -⟩ := hSw; go_simp⟩) ?_
              simp only [Act.put]
              refine HeadW.takeA 3 (v := .int .i64 x) rfl (by kernel_rfl) rfl (by decide) (fun _ _ _ hL => seqB_ready hL.1) (by kernel_rfl) (by kernel_rfl) (fun _ _ _ h => h) HSC.out (.inl ⟨by kernel_rfl, by intro w hSw; rw [HSd.out] at hSw; obtain ⟨⟨e0, l0⟩, ⟨e1, e2, e3, l1⟩, ⟨e4, e5, l2⟩, ⟨e6, l3⟩, -⟩ := hSw; go_simp⟩) ?_
              simp only [Act.put]
              refine HeadW.takeA 4 (v := .bool false) rfl (by kernel_rfl) rfl (by decide) (fun _ _ _ hL => seqB_ready hL.1) (by kernel_rfl) (by kernel_rfl) (fun _ _ _ h => h) HSC.out (.inl ⟨by kernel_rfl, by intro w hSw; rw [HSd.out] at hSw; obtain ⟨⟨e0, l0⟩, ⟨e1, e2, e3, l1⟩, ⟨e4, e5, l2⟩, ⟨e6, l3⟩, -⟩ := hSw; go_simp⟩) ?_
              simp only [Act.put]
              refine HeadW.takeA 5 (v := .bool false) rfl (by kernel_rfl) rfl (by decide) (fun _ _ _ hL => seqB_ready hL.1) (by kernel_rfl) (by kernel_rfl) (fun _ _ _ h => h) HSC.out (.inl ⟨by kernel_rfl, by intro w hSw; rw [HSd.out] at hSw; obtain ⟨⟨e0, l0⟩, ⟨e1, e2, e3, l1⟩, ⟨e4, e5, l2⟩, ⟨e6, l3⟩, -⟩ := hSw; go_simp⟩) ?_
              simp only [Act.put]
              refine HeadW.takeA 6 (v := .agg #[.int .i64 p.mem, .slice p.AD p.data.length p.cD, .slice (some ⟨b0, off0, none⟩) p.fs.length p.cF]) rfl (by kernel_rfl) rfl (by decide) (fun _ _ _ hL => seqB_ready hL.1) (by kernel_rfl) (by kernel_rfl) (fun _ _ _ h => h) HSC.out (.inl ⟨by kernel_rfl, by intro w hSw; rw [HSd.out] at hSw; obtain ⟨⟨e0, l0⟩, ⟨e1, e2, e3, l1⟩, ⟨e4, e5, l2⟩, ⟨e6, l3⟩, -⟩ := hSw; go_simp⟩) ?_
              simp only [Act.put]
              refine HeadW.takeA 7 (v := .agg #[.int .i64 (f : Int), .int .i64 (j : Int)]) rfl (by kernel_rfl) rfl (by decide) (fun _ _ _ hL => seqB_ready hL.1) (by kernel_rfl) (by kernel_rfl) (fun _ _ _ h => h) HSC.out (.inl ⟨by kernel_rfl, by intro w hSw; rw [HSd.out] at hSw; obtain ⟨⟨e0, l0⟩, ⟨e1, e2, e3, l1⟩, ⟨e4, e5, l2⟩, ⟨e6, l3⟩, -⟩ := hSw; go_simp⟩) ?_
              simp only [Act.put]
              refine HeadW.takeA 9 (v := .slice (some ⟨b, off, none⟩) N c) rfl (by kernel_rfl) rfl (by decide) (fun _ _ _ hL => seqB_ready hL.1) (by kernel_rfl) (by kernel_rfl) (fun _ _ _ h => h) HSC.out (.inl ⟨by kernel_rfl, by intro w hSw; rw [HSd.out] at hSw; obtain ⟨⟨e0, l0⟩, ⟨e1, e2, e3, l1⟩, ⟨e4, e5, l2⟩, ⟨e6, l3⟩, -⟩ := hSw; go_simp⟩) ?_
              simp only [Act.put]
              refine HeadW.takeA 10 (v := .int .i64 (j : Int)) rfl (by kernel_rfl) rfl (by decide) (fun _ _ _ hL => seqB_ready hL.1) (by kernel_rfl) (by kernel_rfl) (fun _ _ _ h => h) HSC.out (.inl ⟨by kernel_rfl, by intro w hSw; rw [HSd.out] at hSw; obtain ⟨⟨e0, l0⟩, ⟨e1, e2, e3, l1⟩, ⟨e4, e5, l2⟩, ⟨e6, l3⟩, -⟩ := hSw; go_simp⟩) ?_
              simp only [Act.put]
              refine HeadW.takeA 11 (v := .pointer (some ⟨b, off + j, none⟩)) rfl (by kernel_rfl) rfl (by decide) (fun _ _ _ hL => seqB_ready hL.1) (by kernel_rfl) (by kernel_rfl) (fun _ _ _ h => h) HSC.out (.inl ⟨by kernel_rfl, by intro w hSw; rw [HSd.out] at hSw; obtain ⟨⟨e0, l0⟩, ⟨e1, e2, e3, l1⟩, ⟨e4, e5, l2⟩, ⟨e6, l3⟩, -⟩ := hSw; go_simp⟩) ?_
              simp only [Act.put]
              refine HeadW.takeA 12 (v := .int .i64 x) rfl (by kernel_rfl) rfl (by decide) (fun _ _ _ hL => seqB_ready hL.1) (by kernel_rfl) (by kernel_rfl) (fun _ _ _ h => h) HSC.out (.inl ⟨by kernel_rfl, by intro w hSw; rw [HSd.out] at hSw; obtain ⟨⟨e0, l0⟩, ⟨e1, e2, e3, l1⟩, ⟨e4, e5, l2⟩, ⟨e6, l3⟩, -⟩ := hSw; go_simp⟩) ?_
              simp only [Act.put]
              refine headW_one 8 rfl (by decide) (by kernel_rfl) (by kernel_rfl) fun K hK => ?_
              go_simp
              refine HWn.out.mono ?_
              rintro e w6 ⟨rfl, hb6⟩
              have hb56 : Below w5.heap.size w5 w6 := (Below.refl _ w5).drew.trans hb6
              have HB56 := Lib.hid hb56
              have hSC6 : SC w6 := by
                have h := HSC.out
                rw [HSd.out] at h ⊢
                obtain ⟨⟨e0, l0⟩, ⟨e1, e2, e3, l1⟩, ⟨e4, e5, l2⟩, ⟨e6, l3⟩, hTr⟩ := h
                obtain ⟨hc, -⟩ := bcell hb56
                have hz := hb56.size
                exact ⟨⟨(hc _ _ l0).trans e0, by omega⟩, ⟨(hc _ _ l1).trans e1, (hc _ _ l1).trans e2, (hc _ _ l1).trans e3, by omega⟩, ⟨(hc _ _ l2).trans e4, (hc _ _ l2).trans e5, by omega⟩, ⟨(hc _ _ l3).trans e6, by omega⟩, trivial⟩
              refine hK.out _ _ hSC6 (fun hHeld => ?_)
              clear hK K hHeld hb6 hb56
              refine HeadW.takeA 13 (v := .bool false) rfl (by kernel_rfl) rfl (by decide) (fun _ _ _ hL => seqB_ready hL.1) (by kernel_rfl) (by kernel_rfl) (fun _ _ _ h => h) hSC6 (.inl ⟨by kernel_rfl, by intro w hSw; rw [HSd.out] at hSw; obtain ⟨⟨e0, l0⟩, ⟨e1, e2, e3, l1⟩, ⟨e4, e5, l2⟩, ⟨e6, l3⟩, -⟩ := hSw; go_simp⟩) ?_
              simp only [Act.put]
              refine HeadW.takeA 14 (v := .bool false) rfl (by kernel_rfl) rfl (by decide) (fun _ _ _ hL => seqB_ready hL.1) (by kernel_rfl) (by kernel_rfl) (fun _ _ _ h => h) hSC6 (.inl ⟨by kernel_rfl, by intro w hSw; rw [HSd.out] at hSw; obtain ⟨⟨e0, l0⟩, ⟨e1, e2, e3, l1⟩, ⟨e4, e5, l2⟩, ⟨e6, l3⟩, -⟩ := hSw; go_simp⟩) ?_
              simp only [Act.put]
              refine HeadW.takeA 15 (v := .bool false) rfl (by kernel_rfl) rfl (by decide) (fun _ _ _ hL => seqB_ready hL.1) (by kernel_rfl) (by kernel_rfl) (fun _ _ _ h => h) hSC6 (.inl ⟨by kernel_rfl, by intro w hSw; rw [HSd.out] at hSw; obtain ⟨⟨e0, l0⟩, ⟨e1, e2, e3, l1⟩, ⟨e4, e5, l2⟩, ⟨e6, l3⟩, -⟩ := hSw; go_simp⟩) ?_
              simp only [Act.put]
              refine HeadW.takeA 16 (v := .int .i64 bh) rfl (by kernel_rfl) rfl (by decide) (fun _ _ _ hL => seqB_ready hL.1) (by kernel_rfl) (by kernel_rfl) (fun _ _ _ h => h) hSC6 (.inl ⟨by kernel_rfl, by intro w hSw; rw [HSd.out] at hSw; obtain ⟨⟨e0, l0⟩, ⟨e1, e2, e3, l1⟩, ⟨e4, e5, l2⟩, ⟨e6, l3⟩, -⟩ := hSw; go_simp⟩) ?_
              simp only [Act.put]
              refine HeadW.takeA 17 (v := .bool false) rfl (by kernel_rfl) rfl (by decide) (fun _ _ _ hL => seqB_ready hL.1) (by kernel_rfl) (by kernel_rfl) (fun _ _ _ h => h) hSC6 (.inl ⟨by kernel_rfl, by intro w hSw; rw [HSd.out] at hSw; obtain ⟨⟨e0, l0⟩, ⟨e1, e2, e3, l1⟩, ⟨e4, e5, l2⟩, ⟨e6, l3⟩, -⟩ := hSw; go_simp⟩) ?_
              simp only [Act.put]
              refine HeadW.takeA 18 (v := .bool false) rfl (by kernel_rfl) rfl (by decide) (fun _ _ _ hL => seqB_ready hL.1) (by kernel_rfl) (by kernel_rfl) (fun _ _ _ h => h) hSC6 (.inl ⟨by kernel_rfl, by intro w hSw; rw [HSd.out] at hSw; obtain ⟨⟨e0, l0⟩, ⟨e1, e2, e3, l1⟩, ⟨e4, e5, l2⟩, ⟨e6, l3⟩, -⟩ := hSw; go_simp⟩) ?_
              simp only [Act.put]
              refine HeadW.takeA 19 (v := .bool false) rfl (by kernel_rfl) rfl (by decide) (fun _ _ _ hL => seqB_ready hL.1) (by kernel_rfl) (by kernel_rfl) (fun _ _ _ h => h) hSC6 (.inl ⟨by kernel_rfl, by intro w hSw; rw [HSd.out] at hSw; obtain ⟨⟨e0, l0⟩, ⟨e1, e2, e3, l1⟩, ⟨e4, e5, l2⟩, ⟨e6, l3⟩, -⟩ := hSw; go_simp⟩) ?_
              simp only [Act.put]
              refine HeadW.takeA 20 (v := .slice (some ⟨b1, off1, none⟩) N g.c) rfl (by kernel_rfl) rfl (by decide) (fun _ _ _ hL => seqB_ready hL.1) (by kernel_rfl) (by kernel_rfl) (fun _ _ _ h => h) hSC6 (.inl ⟨by kernel_rfl, by intro w hSw; rw [HSd.out] at hSw; obtain ⟨⟨e0, l0⟩, ⟨e1, e2, e3, l1⟩, ⟨e4, e5, l2⟩, ⟨e6, l3⟩, -⟩ := hSw; go_simp⟩) ?_
              simp only [Act.put]
              refine HeadW.takeA 21 (v := .int .i64 (j : Int)) rfl (by kernel_rfl) rfl (by decide) (fun _ _ _ hL => seqB_ready hL.1) (by kernel_rfl) (by kernel_rfl) (fun _ _ _ h => h) hSC6 (.inl ⟨by kernel_rfl, by intro w hSw; rw [HSd.out] at hSw; obtain ⟨⟨e0, l0⟩, ⟨e1, e2, e3, l1⟩, ⟨e4, e5, l2⟩, ⟨e6, l3⟩, -⟩ := hSw; go_simp⟩) ?_
              simp only [Act.put]
              refine HeadW.takeA 22 (v := .pointer (some ⟨b1, off1 + j * 2, none⟩)) rfl (by kernel_rfl) rfl (by decide) (fun _ _ _ hL => seqB_ready hL.1) (by kernel_rfl) (by kernel_rfl) (fun _ _ _ h => h) hSC6 (.inl ⟨by kernel_rfl, by intro w hSw; rw [HSd.out] at hSw; obtain ⟨⟨e0, l0⟩, ⟨e1, e2, e3, l1⟩, ⟨e4, e5, l2⟩, ⟨e6, l3⟩, -⟩ := hSw; go_simp⟩) ?_
              simp only [Act.put]
              refine HeadW.takeA 23 (v := .pointer (some ⟨b1, off1 + j * 2, none⟩)) rfl (by kernel_rfl) rfl (by decide) (fun _ _ _ hL => seqB_ready hL.1) (by kernel_rfl) (by kernel_rfl) (fun _ _ _ h => h) hSC6 (.inl ⟨by kernel_rfl, by intro w hSw; rw [HSd.out] at hSw; obtain ⟨⟨e0, l0⟩, ⟨e1, e2, e3, l1⟩, ⟨e4, e5, l2⟩, ⟨e6, l3⟩, -⟩ := hSw; go_simp⟩) ?_
              simp only [Act.put]
              refine HeadW.takeA 24 (v := .int .i64 op) rfl (by kernel_rfl) rfl (by decide) (fun _ _ _ hL => seqB_ready hL.1) (by kernel_rfl) (by kernel_rfl) (fun _ _ _ h => h) hSC6 (.inl ⟨by kernel_rfl, by intro w hSw; rw [HSd.out] at hSw; obtain ⟨⟨e0, l0⟩, ⟨e1, e2, e3, l1⟩, ⟨e4, e5, l2⟩, ⟨e6, l3⟩, -⟩ := hSw; go_simp⟩) ?_
              simp only [Act.put]
              refine HeadW.takeA 25 (v := .bool false) rfl (by kernel_rfl) rfl (by decide) (fun _ _ _ hL => seqB_ready hL.1) (by kernel_rfl) (by kernel_rfl) (fun _ _ _ h => h) hSC6 (.inl ⟨by kernel_rfl, by intro w hSw; rw [HSd.out] at hSw; obtain ⟨⟨e0, l0⟩, ⟨e1, e2, e3, l1⟩, ⟨e4, e5, l2⟩, ⟨e6, l3⟩, -⟩ := hSw; go_simp⟩) ?_
              simp only [Act.put]
              refine HeadW.takeA 26 (v := .bool false) rfl (by kernel_rfl) rfl (by decide) (fun _ _ _ hL => seqB_ready hL.1) (by kernel_rfl) (by kernel_rfl) (fun _ _ _ h => h) hSC6 (.inl ⟨by kernel_rfl, by intro w hSw; rw [HSd.out] at hSw; obtain ⟨⟨e0, l0⟩, ⟨e1, e2, e3, l1⟩, ⟨e4, e5, l2⟩, ⟨e6, l3⟩, -⟩ := hSw; go_simp⟩) ?_
              simp only [Act.put]
              refine HeadW.takeA 27 (v := undef) rfl (by kernel_rfl) rfl (by decide) (fun _ _ _ hL => seqB_ready hL.1) (by kernel_rfl) (by kernel_rfl) (fun _ _ _ h => h) hSC6 (.inr ⟨by kernel_rfl, rfl⟩) ?_
              simp only [Act.put]
              refine HeadW.takeA 28 (v := undef) rfl (by kernel_rfl) rfl (by decide) (fun _ _ _ hL => seqB_ready hL.1) (by kernel_rfl) (by kernel_rfl) (fun _ _ _ h => h) hSC6 (.inr ⟨by kernel_rfl, rfl⟩) ?_
              simp only [Act.put]
              refine HeadW.takeA 29 (v := undef) rfl (by kernel_rfl) rfl (by decide) (fun _ _ _ hL => seqB_ready hL.1) (by kernel_rfl) (by kernel_rfl) (fun _ _ _ h => h) hSC6 (.inr ⟨by kernel_rfl, rfl⟩) ?_
              simp only [Act.put]
              refine HeadW.takeA 30 (v := undef) rfl (by kernel_rfl) rfl (by decide) (fun _ _ _ hL => seqB_ready hL.1) (by kernel_rfl) (by kernel_rfl) (fun _ _ _ h => h) hSC6 (.inr ⟨by kernel_rfl, rfl⟩) ?_
              simp only [Act.put]
              refine HeadW.takeA 31 (v := undef) rfl (by kernel_rfl) rfl (by decide) (fun _ _ _ hL => seqB_ready hL.1) (by kernel_rfl) (by kernel_rfl) (fun _ _ _ h => h) hSC6 (.inr ⟨by kernel_rfl, rfl⟩) ?_
              simp only [Act.put]
              refine HeadW.takeA 32 (v := undef) rfl (by kernel_rfl) rfl (by decide) (fun _ _ _ hL => seqB_ready hL.1) (by kernel_rfl) (by kernel_rfl) (fun _ _ _ h => h) hSC6 (.inr ⟨by kernel_rfl, rfl⟩) ?_
              simp only [Act.put]
              refine HeadW.takeA 33 (v := undef) rfl (by kernel_rfl) rfl (by decide) (fun _ _ _ hL => seqB_ready hL.1) (by kernel_rfl) (by kernel_rfl) (fun _ _ _ h => h) hSC6 (.inr ⟨by kernel_rfl, rfl⟩) ?_
              simp only [Act.put]
              refine HeadW.takeA 34 (v := undef) rfl (by kernel_rfl) rfl (by decide) (fun _ _ _ hL => seqB_ready hL.1) (by kernel_rfl) (by kernel_rfl) (fun _ _ _ h => h) hSC6 (.inr ⟨by kernel_rfl, rfl⟩) ?_
              simp only [Act.put]
              refine HeadW.takeA 35 (v := undef) rfl (by kernel_rfl) rfl (by decide) (fun _ _ _ hL => seqB_ready hL.1) (by kernel_rfl) (by kernel_rfl) (fun _ _ _ h => h) hSC6 (.inr ⟨by kernel_rfl, rfl⟩) ?_
              simp only [Act.put]
              refine HeadW.takeA 36 (v := undef) rfl (by kernel_rfl) rfl (by decide) (fun _ _ _ hL => seqB_ready hL.1) (by kernel_rfl) (by kernel_rfl) (fun _ _ _ h => h) hSC6 (.inr ⟨by kernel_rfl, rfl⟩) ?_
              simp only [Act.put]
              refine HeadW.takeA 37 (v := undef) rfl (by kernel_rfl) rfl (by decide) (fun _ _ _ hL => seqB_ready hL.1) (by kernel_rfl) (by kernel_rfl) (fun _ _ _ h => h) hSC6 (.inr ⟨by kernel_rfl, rfl⟩) ?_
              simp only [Act.put]
              refine HeadW.takeA 38 (v := .bool false) rfl (by kernel_rfl) rfl (by decide) (fun _ _ _ hL => seqB_ready hL.1) (by kernel_rfl) (by kernel_rfl) (fun _ _ _ h => h) hSC6 (.inl ⟨by kernel_rfl, by intro w hSw; rw [HSd.out] at hSw; obtain ⟨⟨e0, l0⟩, ⟨e1, e2, e3, l1⟩, ⟨e4, e5, l2⟩, ⟨e6, l3⟩, -⟩ := hSw; go_simp⟩) ?_
              simp only [Act.put]
              refine HeadW.takeA 39 (v := .bool false) rfl (by kernel_rfl) rfl (by decide) (fun _ _ _ hL => seqB_ready hL.1) (by kernel_rfl) (by kernel_rfl) (fun _ _ _ h => h) hSC6 (.inl ⟨by kernel_rfl, by intro w hSw; rw [HSd.out] at hSw; obtain ⟨⟨e0, l0⟩, ⟨e1, e2, e3, l1⟩, ⟨e4, e5, l2⟩, ⟨e6, l3⟩, -⟩ := hSw; go_simp⟩) ?_
              simp only [Act.put]
              simp only [List.getElem_toArray, List.getElem_cons_succ, List.getElem_cons_zero, List.setIfInBounds_toArray, List.set_cons_succ, List.set_cons_zero]
              refine fun hInv => ⟨by kernel_rfl, ?_⟩
              clear hInv
              simp only [List.drop_succ_cons, List.drop_zero]
              clear HSC HSd hSC6
              clear SC
              have hz6 := HB56.out.size
              have Hby6 := Lib.hid (show Below wy.heap.size wy w6 from Hby5.out.trans (HB56.out.mono Hby5.out.size))
              have hX6 := HX5.out.below HB56.out HX5.out.lt
              have hS6 := HS5.out.below HB56.out HS5.out.lt
              have hP6 := HP5.out.below HB56.out
              have y0 : w6.cell? ⟨gx, 0, none⟩ = some (.int .i64 p.mem) := hX6.cell 0
              have y1 : w6.cell? ⟨gx, 1, none⟩ = some (.slice p.AD p.data.length p.cD) := hX6.cell 1
              have y2 : w6.cell? ⟨gx, 2, none⟩ = some (.slice p.AF p.fs.length p.cF) := hX6.cell 2
              have yl := hX6.lt
              have z0 : w6.cell? ⟨gP, 0, none⟩ = some (.int .i64 (f : Int)) := hS6.cell 0
              have z1 : w6.cell? ⟨gP, 1, none⟩ = some (.int .i64 (j : Int)) := hS6.cell 1
              have zl := hS6.lt
              have hx6 : w6.cell? ⟨b, off + j, none⟩ = some (.int .i64 x) := ((bcell HB56.out).1 _ _ hbl5).trans hx5
              have hbl6 : b < w6.heap.size := by omega
              have hmx := run_max3 mj x bh
              have HNx := Lib.hid (next_any p f j w6 hP6)
              have HP6 := Lib.hid hP6
              have Hi6 := Lib.hid (show w6.cell? ⟨b1, off1 + j * 2, none⟩ = some (.int .i64 op) ∧ w6.cell? ⟨b1, off1 + j * 2 + 1, none⟩ = some (.int .i64 aa) ∧ b1 < w6.heap.size from ⟨((bcell HB56.out).1 _ _ hb1').trans o0, ((bcell HB56.out).1 _ _ hb1').trans o1, by omega⟩)
              clear hX6 hS6 hP6 x05 x15 x25 xl5 s05 s15 sl5 o0 o1 hx5 hbl5 hz6
              go_upto_region 20 with (fail)
              clear hmx hx6
              go_wp2_with fail
              refine HNx.out.mono ?_
              rintro e w7 ⟨A7, c7, rfl, ho7, hb7⟩
              obtain ⟨m, hm⟩ : ∃ m, m = (nextL p.plain f j).length := ⟨_, rfl⟩
              have hm2 : m ≤ 2 := by rw [hm]; exact nextL_len _ _ _
              rw [← hm]
              have Hm := Lib.hid (show m = (nxF p.plain f j).length from by rw [hm]; unfold nxF; rw [List.length_map])
              have Hm1 := Lib.hid hm
              have i0 : w7.cell? ⟨b1, off1 + j * 2, none⟩ = some (.int .i64 op) := ((bcell hb7).1 _ _ Hi6.out.2.2).trans Hi6.out.1
              have i1 : w7.cell? ⟨b1, off1 + j * 2 + 1, none⟩ = some (.int .i64 aa) := ((bcell hb7).1 _ _ Hi6.out.2.2).trans Hi6.out.2.1
              have il : b1 < w7.heap.size := by have := hb7.size; have := Hi6.out.2.2; omega
              have Ho7 := Lib.hid ho7
              have Hb7 := Lib.hid hb7
              have HEn := Lib.hid (ends13_any ⟨op, aa⟩ w7)
              obtain ⟨en, hen⟩ : ∃ x, x = endsI ⟨op, aa⟩ := ⟨_, rfl⟩
              rw [← hen] at HEn
              have hne : en = false → ¬ m = 0 := fun e => by
                rw [hm, Hnx.out]
                rw [hen] at e
                exact ends_goes e
              have Hne := Lib.hid hne
              have hn7 : w6.heap.size ≤ w7.heap.size := hb7.size
              clear hm ho7 hb7 hne hen y0 y1 y2 yl z0 z1 zl
              go_wp2_with fail
              refine HEn.out.mono ?_
              rintro e w8 ⟨rfl, hb8⟩
              have Ho8 := Lib.hid (Own.below Ho7.out hb8 (Nat.le_refl _))
              have Hby8 := Lib.hid (show Below wy.heap.size wy w8 from Hby6.out.trans ((Hb7.out.trans (hb8.mono hn7)).mono Hby6.out.size))
              have hgC8 : gC < wy.heap.size := (Own.row HCj.out gC rfl).2
              have HgC8 := Lib.hid hgC8
              have HC8 := Lib.hid (Own.below HCj.out Hby8.out (Nat.le_refl _))
              have HO8 := Lib.hid (HOj.out.trans (Only.of_fresh Hby8.out))
              have Hz68 := Lib.hid (show w6.heap.size ≤ w8.heap.size ∧ wy.heap.size ≤ w6.heap.size from ⟨by have := hb8.size; omega, Hby6.out.size⟩)
              have hle := HT.out.le j x Hx1.out (by omega)
              have hbnow : nowI p.plain f j x = bh := by unfold nowI; exact Hbh.out.symm
              have HS8 := Lib.hid (show CmS p.plain f top cj (max mj (max x bh)) from ⟨HSj.out.len, HSj.out.zero, HSj.out.reach, by have := HSj.out.lo; omega, by
                have h1 := HSj.out.hi
                have h2 := hle.1
                have h3 : nowI p.plain f j x ≤ top := hle.2
                rw [hbnow] at h3
                omega⟩)
              have Hmj := Lib.hid (show mj ≤ max mj (max x bh) ∧ x ≤ max mj (max x bh) ∧ nowI p.plain f j x ≤ max mj (max x bh) from ⟨by omega, by omega, by rw [hbnow]; omega⟩)
              obtain ⟨mk, hmk⟩ : ∃ y, y = max mj (max x bh) := ⟨_, rfl⟩
              rw [← hmk] at HS8 Hmj ⊢
              clear hmk hle hbnow hb8 hgC8 i0 i1 il hbl6
              have hgoto : ∀ (en : Bool), (en = false → ¬ m = 0) → True := fun _ _ => trivial
              clear hgoto
              cases en with
              | true =>
                go_wp2_with fail
                go_loopw [12, 19] (fun ag i wz => ∃ (k : Nat) (ck : List Bool) (ak : Bool), k ≤ m ∧ i = .int .i64 (k : Int) ∧ ag = .bool ak ∧ Hid (CmS p.plain f top ck mk) ∧ OwnL wz 0 (some ⟨gC, 0, none⟩) N N ck ∧ Only (fun k => k = gC) w8 wz ∧ Hid (ck[j]? = some true) ∧
                  Hid ((ak = aj ∧ ck = cj ∧ ∀ (q : Nat) u, q < k → (nxF p.plain f j)[q]? = some u → cj[u]? = some true) ∨ (ak = true ∧ falses ck < falses cj))) (fun _ i _ => m - (intOf i).toNat)
                case atStart => exact ⟨0, cj, aj, Nat.zero_le _, rfl, rfl, HS8, HC8.out, Only.refl _ _, Hv, Lib.hid (.inl ⟨rfl, rfl, fun q u hq => by omega⟩)⟩
                case round =>
                  rename World => wz
                  obtain ⟨k, ck, ak, hk, rfl, rfl, HSk, hCk, hOk, HVk, HDk⟩ := hrel
                  have HCk := Lib.hid hCk
                  have HOk := Lib.hid hOk
                  by_cases hlt3 : k < m
                  · have g7 : (k : Int) < (m : Int) := by omega
                    have hkn : k < (nxF p.plain f j).length := by rw [← Hm.out]; exact hlt3
                    have hkn1 : k < (nextL p.plain f j).length := by rw [← Hm1.out]; exact hlt3
                    obtain ⟨u, hu⟩ : ∃ u, u = (nxF p.plain f j)[k] := ⟨_, rfl⟩
                    have hum : u ∈ nxF p.plain f j := by rw [hu]; exact List.getElem_mem hkn
                    have huN : u < N := by rw [HNl.out]; exact nxF_lt hum
                    have hu1 : (nextL p.plain f j)[k] = (u : Int) := by
                      have h0 : 0 ≤ (nextL p.plain f j)[k] := by
                        have h1 : (nextL p.plain f j)[k] ∈ goesL ⟨op, aa⟩ j := by rw [← Hnx.out]; exact List.getElem_mem hkn1
                        exact HI.out.goes _ h1
                      have h2 : (nxF p.plain f j)[k]? = some ((nextL p.plain f j)[k]).toNat := by unfold nxF; rw [List.getElem?_map, List.getElem?_eq_getElem hkn1]; rfl
                      have h3 := (List.getElem?_eq_some_iff.1 h2).2
                      rw [hu, h3]
                      omega
                    have hrow : RV wz A7 ((nextL p.plain f j).map iv) := (RV.of_own Ho8.out).only hOk fun _ b o e e2 => by
                      have h1 := (Own.row Ho8.out b (by rw [e]; rfl)).1
                      have h2 := Hz68.out
                      have h3 := HgC8.out
                      change w6.heap.size ≤ b at h1
                      omega
                    obtain ⟨rb, ro, rfl, hrl, hrc⟩ := hrow.at_ (by rw [List.length_map]; omega)
                    have r0 := hrc k (.int .i64 (u : Int)) (by rw [List.getElem?_map, List.getElem?_eq_getElem hkn1, hu1]; rfl)
                    obtain ⟨xu, hxu1, hxu2⟩ := Hx.out u huN
                    have hxe : xu = bh := by
                      have h1 := Hgo.out u (nxF_go Hi.out hum)
                      rw [hxu1] at h1
                      exact Option.some.inj h1
                    subst hxe
                    have hq : wz.cell? ⟨b, off + u, none⟩ = some (.int .i64 xu) := ((HO8.out.trans hOk).cell (p := ⟨b, off + u, none⟩) hbl hbC).trans hxu2
                    have hbz : b < wz.heap.size := by have := (HO8.out.trans hOk).size; omega
                    have huN2 : (u : Int) < (N : Int) := by omega
                    have hul : u < ck.length := by rw [HSk.out.len, ← HNl.out]; exact huN
                    have c0 := OwnL.at_ hCk u hul
                    obtain ⟨cf, cl⟩ := OwnL.room hCk u hul
                    obtain ⟨v, hv⟩ : ∃ v, v = ck[u] := ⟨_, rfl⟩
                    rw [← hv] at c0
                    have Hvu := Lib.hid (show ck[u]? = some v from by rw [hv]; exact List.getElem?_eq_getElem hul)
                    have Hum := Lib.hid hum
                    have HuK := Lib.hid (show (nxF p.plain f j)[k]? = some u from by rw [hu]; exact List.getElem?_eq_getElem hkn)
                    clear hv hrow hrc hu1 hum hu hkn hkn1 hxu1 hxu2 hCk hOk
                    cases v with
                    | true =>
                      go_wp2_with fail
                      refine ⟨⟨k + 1, ck, ak, by omega, rfl, rfl, HSk, HCk.out, HOk.out, HVk, Lib.hid ?_⟩, ?_⟩
                      · rcases HDk.out with ⟨h1, h2, h3⟩ | h1
                        · refine .inl ⟨h1, h2, fun q y hq hy => ?_⟩
                          by_cases e : q = k
                          · subst e
                            rw [HuK.out] at hy
                            injection hy with hy
                            rw [← hy, ← h2]
                            exact Hvu.out
                          · exact h3 q y (by omega) hy
                        · exact .inr h1
                      · simp [intOf]; omega
                    | false =>
                      have HCp := Lib.hid (HCk.out.put u true)
                      have HOp := Lib.hid (HOk.out.setCell (p := ⟨gC, u, none⟩) (.inl rfl) (.bool true))
                      have HSp := Lib.hid (HSk.out.put HVk.out Hum.out)
                      have HFs := Lib.hid (falses_set Hvu.out)
                      go_wp2_with fail
                      refine ⟨⟨k + 1, ck.set u true, true, by omega, rfl, rfl, HSp, HCp.out, HOp.out, Lib.hid (cm_mono HVk.out), Lib.hid (.inr ⟨rfl, ?_⟩)⟩, ?_⟩
                      · have h1 := HFs.out
                        rcases HDk.out with ⟨-, h2, -⟩ | ⟨-, h2⟩
                        · rw [h2] at h1 ⊢; omega
                        · omega
                      · simp [intOf]; omega
                  · obtain rfl : k = m := by omega
                    clear hCk hOk
                    go_wp2_with fail
                    refine ⟨⟨j + 1, ck, mk, ak, by omega, rfl, rfl, rfl, HSk, HCk.out, HO8.out.trans HOk.out, Lib.hid ?_⟩, ?_⟩
                    · rcases HDk.out with ⟨h1, h2, h3⟩ | ⟨h1, h2⟩
                      · rcases HD.out with ⟨k1, k2, k3⟩ | ⟨k1, k2⟩
                        · refine .inl ⟨h1.trans k1, h2.trans k2, fun q hq hcq => ?_⟩
                          by_cases e : q = j
                          · subst e
                            refine ⟨fun u hu => ?_, fun y hy => ?_⟩
                            · obtain ⟨t, ht, hte⟩ := List.getElem_of_mem hu
                              rw [h2]
                              exact h3 t u (by rw [Hm.out]; exact ht) (by rw [← hte]; exact List.getElem?_eq_getElem ht)
                            · rw [Hx1.out] at hy
                              injection hy with hy
                              rw [← hy]
                              exact ⟨Hmj.out.2.1, Hmj.out.2.2⟩
                          · have h4 := k3 q (by omega) (by rw [← h2]; exact hcq)
                            refine ⟨fun u hu => by rw [h2]; exact h4.1 u hu, fun y hy => ?_⟩
                            have h5 := h4.2 y hy
                            have h6 := Hmj.out.1
                            omega
                        · exact .inr ⟨h1.trans k1, by rw [h2]; exact k2⟩
                      · rcases HD.out with ⟨-, k2, -⟩ | ⟨-, k2⟩
                        · exact .inr ⟨h1, by rw [← k2]; exact h2⟩
                        · exact .inr ⟨h1, by omega⟩
                    · simp [intOf]; omega
              | false =>
                have hm0 := Hne.out rfl
                have hm0' : ¬ (m : Int) = 0 := by omega
                have hm0b : ((m : Int) == 0) = false := by simpa using hm0
                go_wp2_with fail
                clear hm0 hm0' hm0b
                go_loopw [12, 19] (fun ag i wz => ∃ (k : Nat) (ck : List Bool) (ak : Bool), k ≤ m ∧ i = .int .i64 (k : Int) ∧ ag = .bool ak ∧ Hid (CmS p.plain f top ck mk) ∧ OwnL wz 0 (some ⟨gC, 0, none⟩) N N ck ∧ Only (fun k => k = gC) w8 wz ∧ Hid (ck[j]? = some true) ∧
                  Hid ((ak = aj ∧ ck = cj ∧ ∀ (q : Nat) u, q < k → (nxF p.plain f j)[q]? = some u → cj[u]? = some true) ∨ (ak = true ∧ falses ck < falses cj))) (fun _ i _ => m - (intOf i).toNat)
                case atStart => exact ⟨0, cj, aj, Nat.zero_le _, rfl, rfl, HS8, HC8.out, Only.refl _ _, Hv, Lib.hid (.inl ⟨rfl, rfl, fun q u hq => by omega⟩)⟩
                case round =>
                  rename World => wz
                  obtain ⟨k, ck, ak, hk, rfl, rfl, HSk, hCk, hOk, HVk, HDk⟩ := hrel
                  have HCk := Lib.hid hCk
                  have HOk := Lib.hid hOk
                  by_cases hlt3 : k < m
                  · have g7 : (k : Int) < (m : Int) := by omega
                    have hkn : k < (nxF p.plain f j).length := by rw [← Hm.out]; exact hlt3
                    have hkn1 : k < (nextL p.plain f j).length := by rw [← Hm1.out]; exact hlt3
                    obtain ⟨u, hu⟩ : ∃ u, u = (nxF p.plain f j)[k] := ⟨_, rfl⟩
                    have hum : u ∈ nxF p.plain f j := by rw [hu]; exact List.getElem_mem hkn
                    have huN : u < N := by rw [HNl.out]; exact nxF_lt hum
                    have hu1 : (nextL p.plain f j)[k] = (u : Int) := by
                      have h0 : 0 ≤ (nextL p.plain f j)[k] := by
                        have h1 : (nextL p.plain f j)[k] ∈ goesL ⟨op, aa⟩ j := by rw [← Hnx.out]; exact List.getElem_mem hkn1
                        exact HI.out.goes _ h1
                      have h2 : (nxF p.plain f j)[k]? = some ((nextL p.plain f j)[k]).toNat := by unfold nxF; rw [List.getElem?_map, List.getElem?_eq_getElem hkn1]; rfl
                      have h3 := (List.getElem?_eq_some_iff.1 h2).2
                      rw [hu, h3]
                      omega
                    have hrow : RV wz A7 ((nextL p.plain f j).map iv) := (RV.of_own Ho8.out).only hOk fun _ b o e e2 => by
                      have h1 := (Own.row Ho8.out b (by rw [e]; rfl)).1
                      have h2 := Hz68.out
                      have h3 := HgC8.out
                      change w6.heap.size ≤ b at h1
                      omega
                    obtain ⟨rb, ro, rfl, hrl, hrc⟩ := hrow.at_ (by rw [List.length_map]; omega)
                    have r0 := hrc k (.int .i64 (u : Int)) (by rw [List.getElem?_map, List.getElem?_eq_getElem hkn1, hu1]; rfl)
                    obtain ⟨xu, hxu1, hxu2⟩ := Hx.out u huN
                    have hxe : xu = bh := by
                      have h1 := Hgo.out u (nxF_go Hi.out hum)
                      rw [hxu1] at h1
                      exact Option.some.inj h1
                    subst hxe
                    have hq : wz.cell? ⟨b, off + u, none⟩ = some (.int .i64 xu) := ((HO8.out.trans hOk).cell (p := ⟨b, off + u, none⟩) hbl hbC).trans hxu2
                    have hbz : b < wz.heap.size := by have := (HO8.out.trans hOk).size; omega
                    have huN2 : (u : Int) < (N : Int) := by omega
                    have hul : u < ck.length := by rw [HSk.out.len, ← HNl.out]; exact huN
                    have c0 := OwnL.at_ hCk u hul
                    obtain ⟨cf, cl⟩ := OwnL.room hCk u hul
                    obtain ⟨v, hv⟩ : ∃ v, v = ck[u] := ⟨_, rfl⟩
                    rw [← hv] at c0
                    have Hvu := Lib.hid (show ck[u]? = some v from by rw [hv]; exact List.getElem?_eq_getElem hul)
                    have Hum := Lib.hid hum
                    have HuK := Lib.hid (show (nxF p.plain f j)[k]? = some u from by rw [hu]; exact List.getElem?_eq_getElem hkn)
                    clear hv hrow hrc hu1 hum hu hkn hkn1 hxu1 hxu2 hCk hOk
                    cases v with
                    | true =>
                      go_wp2_with fail
                      refine ⟨⟨k + 1, ck, ak, by omega, rfl, rfl, HSk, HCk.out, HOk.out, HVk, Lib.hid ?_⟩, ?_⟩
                      · rcases HDk.out with ⟨h1, h2, h3⟩ | h1
                        · refine .inl ⟨h1, h2, fun q y hq hy => ?_⟩
                          by_cases e : q = k
                          · subst e
                            rw [HuK.out] at hy
                            injection hy with hy
                            rw [← hy, ← h2]
                            exact Hvu.out
                          · exact h3 q y (by omega) hy
                        · exact .inr h1
                      · simp [intOf]; omega
                    | false =>
                      have HCp := Lib.hid (HCk.out.put u true)
                      have HOp := Lib.hid (HOk.out.setCell (p := ⟨gC, u, none⟩) (.inl rfl) (.bool true))
                      have HSp := Lib.hid (HSk.out.put HVk.out Hum.out)
                      have HFs := Lib.hid (falses_set Hvu.out)
                      go_wp2_with fail
                      refine ⟨⟨k + 1, ck.set u true, true, by omega, rfl, rfl, HSp, HCp.out, HOp.out, Lib.hid (cm_mono HVk.out), Lib.hid (.inr ⟨rfl, ?_⟩)⟩, ?_⟩
                      · have h1 := HFs.out
                        rcases HDk.out with ⟨-, h2, -⟩ | ⟨-, h2⟩
                        · rw [h2] at h1 ⊢; omega
                        · omega
                      · simp [intOf]; omega
                  · obtain rfl : k = m := by omega
                    clear hCk hOk
                    go_wp2_with fail
                    refine ⟨⟨j + 1, ck, mk, ak, by omega, rfl, rfl, rfl, HSk, HCk.out, HO8.out.trans HOk.out, Lib.hid ?_⟩, ?_⟩
                    · rcases HDk.out with ⟨h1, h2, h3⟩ | ⟨h1, h2⟩
                      · rcases HD.out with ⟨k1, k2, k3⟩ | ⟨k1, k2⟩
                        · refine .inl ⟨h1.trans k1, h2.trans k2, fun q hq hcq => ?_⟩
                          by_cases e : q = j
                          · subst e
                            refine ⟨fun u hu => ?_, fun y hy => ?_⟩
                            · obtain ⟨t, ht, hte⟩ := List.getElem_of_mem hu
                              rw [h2]
                              exact h3 t u (by rw [Hm.out]; exact ht) (by rw [← hte]; exact List.getElem?_eq_getElem ht)
                            · rw [Hx1.out] at hy
                              injection hy with hy
                              rw [← hy]
                              exact ⟨Hmj.out.2.1, Hmj.out.2.2⟩
                          · have h4 := k3 q (by omega) (by rw [← h2]; exact hcq)
                            refine ⟨fun u hu => by rw [h2]; exact h4.1 u hu, fun y hy => ?_⟩
                            have h5 := h4.2 y hy
                            have h6 := Hmj.out.1
                            omega
                        · exact .inr ⟨h1.trans k1, by rw [h2]; exact k2⟩
                      · rcases HD.out with ⟨-, k2, -⟩ | ⟨-, k2⟩
                        · exact .inr ⟨h1, by rw [← k2]; exact h2⟩
                        · exact .inr ⟨h1, by omega⟩
                    · simp [intOf]; omega
        · obtain rfl : j = N := by omega
          clear hCj hOj
          go_wp2_with fail
          go_roundg (2 * falses cj + (if aj then 1 else 0))
          case measure =>
            rcases HD.out with ⟨h1, h2, -⟩ | ⟨h1, h2⟩
            · rw [h1, h2]; simp; omega
            · rw [h1]; simp; omega
          case rel =>
            refine ⟨cj, mj, aj, rfl, rfl, HSj, HCj.out, HOj.out, Nat.le_refl _, Lib.hid (fun e => ?_)⟩
            rcases HD.out with ⟨h1, h2, h3⟩ | ⟨h1, h2⟩
            · exact h3
            · rw [h1] at e; cases e
    | false =>
      have hcl := HCl.out rfl
      have HCL := Lib.hid (show CmP p.plain f h cm most (p.plain.len f) from by rw [← HNl.out]; exact hcl)
      have Hmt := Lib.hid (HCL.out.eqTop HS.out HF.out HT.out)
      clear hC hO hcl
      go_wp2_with fail
      go_loopw [20] (fun i wz => ∃ k : Nat, k ≤ N ∧ i = .int .i64 (k : Int) ∧ wr = wz) (fun i _ => N - (intOf i).toNat)
      case atStart => exact ⟨0, Nat.zero_le _, rfl, rfl⟩
      case round =>
        rename World => wz
        obtain ⟨k, hk, rfl, rfl⟩ := hrel
        by_cases hlt : k < N
        · have g2 : (k : Int) < (N : Int) := by omega
          have hkl : k < cm.length := by rw [HS.out.len, ← HNl.out]; exact hlt
          have l0 := OwnL.at_ HC.out k hkl
          obtain ⟨lf, ll⟩ := OwnL.room HC.out k hkl
          obtain ⟨v, hv⟩ : ∃ v, v = cm[k] := ⟨_, rfl⟩
          rw [← hv] at l0
          have Hv := Lib.hid (show cm[k]? = some v from by rw [hv]; exact List.getElem?_eq_getElem hkl)
          obtain ⟨x, hx1, hx2⟩ := Hx.out k hlt
          have hx3 : wr.cell? ⟨b, off + k, none⟩ = some (.int .i64 x) := (HO.out.cell (p := ⟨b, off + k, none⟩) hbl (fun e => by have := HlC.out; change b = gC at e; omega)).trans hx2
          have hbr : b < wr.heap.size := by have := HO.out.size; omega
          have Hx1 := Lib.hid hx1
          clear hv hx1 hx2
          cases v with
          | true =>
            go_wp2_with fail
            refine ⟨⟨k + 1, by omega, rfl, trivial⟩, ?_⟩
            simp [intOf]; omega
          | false =>
            have hxm : x = -1 := by
              by_cases e : x = -1
              · exact e
              · have h1 := HCL.out.all HS.out (HF.out.come k x Hx1.out e)
                rw [Hv.out] at h1
                cases h1
            subst hxm
            go_wp2_with fail
            refine ⟨⟨k + 1, by omega, rfl, trivial⟩, ?_⟩
            simp [intOf]; omega
        · obtain rfl : k = N := by omega
          have hmt := Hmt.out
          subst hmt
          go_wp2_with fail
          go_ret
          exact ⟨rfl, HB1.out.trans (HO.out.below (B := w.heap.size) HB1.out.size fun q hq e => by have := HlC.out; have := HB1.out.size; omega)⟩
end Go.Proofs.Ytcmpmhlcfalbhaa
