/- The law's tried (printed by gen_cktr.py). -/
import Derived.Test.YtcmpmhlcfalbhaaCkTp
import Derived.Test.YtcmpmhlcfalbhaaCkSh
import Derived.Deep.CutRange
namespace Go.Proofs.Ytcmpmhlcfalbhaa
open Go.RowKit

theorem good_jump {P : Prg} (h : Good P) {f n : Nat} {i : Ins} (hi : P.ins f n = some i) (hj : i.op = 14 ∨ i.op = 15 ∨ i.op = 16) : i.a < P.len f := by
  obtain ⟨g, hg, hgi⟩ := Prg.fn_of hi
  have h1 := firstP_none h.ops g (List.mem_of_getElem? hg) i (List.mem_of_getElem? hgi)
  unfold badOp at h1
  rw [if_pos hj] at h1
  rw [Prg.len_of hg]
  split at h1
  · cases h1
  · omega
theorem OwnI.cut {w : World} {base n c m : Nat} {g : Addr} {xs : List Int} (h : OwnI w base (some g) n c xs) (hm : m ≤ n) : OwnI w base (some g) m c (xs.take m) := by
  have h2 := Own.cut h m hm (by simp)
  rw [Nat.mul_one, ← List.map_take] at h2
  exact h2
/-- An append of one element that was just laid; where it comes to lie. -/
theorem wpList_push1A {ops : Array Oper} {rest : List Oper} {o : Oper} {a : Act} {Q : Exit → Act → World → Prop} (hgd : o.guard = none) (s x : Operand) {t e : TypeId} {bytes : Nat} (E : Elem Try.prog t e 1 bytes)
    (ho : o.op = .call { callee := .builtin .append, args := #[s, x], argTypes := #[t, t] })
    {w : World} {base n c : Nat} {A : Option Addr} {vs : List Value} {v : Value} (hs : a.eval s = .slice A n c) (hown : Own w base e 1 A n c vs)
    (hx : a.eval x = .slice (some ⟨w.heap.size, 0, none⟩) 1 1) (h1 : v.oneCell' = true) (h63 : n + 1 ≤ maxLen) (hbytes : (n + 1) * bytes ≤ 140737488355328) (hbase : base ≤ w.heap.size)
    (h : ∀ A2 c2 w', Own w' base e 1 A2 (n + 1) c2 (vs ++ [v]) → Only (fun b => A.map (·.block) = some b) w w' → (∀ b, A2.map (·.block) = some b → A.map (·.block) = some b ∨ w.heap.size ≤ b) → wpList Try.prog ops Q rest (a.put o.dst (.slice A2 (n + 1) c2)) w') :
    wpList Try.prog ops Q (o :: rest) a (w.alloc (.cells #[v] e)) := by
  refine wpList_app hgd s x E ho hs (Own.below hown ((Below.refl _ _).alloc (Nat.le_refl _) _) (Nat.le_refl _)) (m := 1) (c' := 1) (us := [v]) hx (RV.of_blk (Blk.new w e #[v])) rfl (by simpa using h1) h63 hbytes (by simp; omega) (by intro h; cases h) ?_
  intro A2 c2 w' ho2 hg hA
  refine h A2 c2 w' ho2 (Only.grown ((Only.refl _ w).alloc _) hg fun k hk => .inl hk) fun b hb => ?_
  rcases hA with hA | hA
  · exact .inl (by rw [← hA]; exact hb)
  · rw [hb] at hA
    have := Option.some.inj hA
    rw [World.size_alloc] at this
    exact .inr (by omega)
def TriedPost (P : Prg) (f : Nat) (w : World) (e : Ending) (w' : World) : Prop :=
  Below w.heap.size w w' ∧ ((∃ h A c, e = .returned (.tuple #[.slice A h.length c, .bool true]) ∧ HFin P f h ∧ RV w' A (h.map iv)) ∨ (e = .returned (.tuple #[.slice none 0 0, .bool false]) ∧ ∀ k, ¬ HFin P f k))
/-- What stays while one place is taken. -/
structure TAt (p : PrgM) (f : Nat) (g : FunM) (b0 off0 b1 off1 gx gH N : Nat) (h : List Int) (w : World) : Prop where
  x : Blk w gx 26 #[.int .i64 p.mem, .slice p.AD p.data.length p.cD, .slice (some ⟨b0, off0, none⟩) p.fs.length p.cF]
  prg : PrgAt w p
  own : OwnI w 0 (some ⟨gH, 0, none⟩) N N h
  res : w.cell? ⟨b0, off0 + f * 4 + 2, none⟩ = some (.int .i64 g.results) ∧ b0 < w.heap.size
  ins : ∀ (n : Nat) i, g.code[n]? = some i → w.cell? ⟨b1, off1 + n * 2, none⟩ = some (.int .i64 i.op) ∧ w.cell? ⟨b1, off1 + n * 2 + 1, none⟩ = some (.int .i64 i.a) ∧ b1 < w.heap.size
theorem TAt.below {p : PrgM} {f : Nat} {g : FunM} {b0 off0 b1 off1 gx gH N : Nat} {h : List Int} {w w' : World} (H : TAt p f g b0 off0 b1 off1 gx gH N h w) (hb : Below w.heap.size w w') : TAt p f g b0 off0 b1 off1 gx gH N h w' := by
  obtain ⟨hc, -⟩ := bcell hb
  have hz := hb.size
  refine ⟨H.x.below hb H.x.lt, H.prg.below hb, Own.below H.own hb (Nat.le_refl _), ⟨(hc _ _ H.res.2).trans H.res.1, Nat.lt_of_lt_of_le H.res.2 hz⟩, fun n i hi => ?_⟩
  obtain ⟨h1, h2, h3⟩ := H.ins n i hi
  exact ⟨(hc _ _ h3).trans h1, (hc _ _ h3).trans h2, Nat.lt_of_lt_of_le h3 hz⟩
set_option maxRecDepth 100000 in
set_option maxHeartbeats 20000000 in
theorem tried13_any (p : PrgM) (f : Nat) (AP : Option Addr) (cP : Nat) (ts : List Int) (w : World) (hp : PrgAt w p) (hg : Good p.plain) (hf : f < p.fs.length) (hr : RV w AP (ts.map iv)) (htl : ts.length ≤ 9223372036854775807) :
    Calls Try.prog 28 #[p.val, .int .i64 (f : Int), .slice AP ts.length cP] w (TriedPost p.plain f w) := by
  have hfP : f < p.plain.fs.length := by simpa [PrgM.plain] using hf
  obtain ⟨N, hNl⟩ : ∃ N, N = p.plain.len f := ⟨_, rfl⟩
  have hN0 : 0 < N := by rw [hNl]; exact len_pos hg.chk hfP
  have hN1 : N ≤ 4096 := by rw [hNl]; exact good_len hg f
  obtain ⟨tl, htlE⟩ : ∃ n, n = ts.length := ⟨_, rfl⟩
  rw [← htlE] at htl ⊢
  obtain ⟨w1, hw1⟩ : ∃ w1, w1 = w.alloc (.cells #[.int .i64 p.mem, .slice p.AD p.data.length p.cD, .slice p.AF p.fs.length p.cF] 26) := ⟨_, rfl⟩
  have hb1 : Below w.heap.size w w1 := by rw [hw1]; exact (Below.refl _ _).alloc (Nat.le_refl _) _
  obtain ⟨gx, hgx⟩ : ∃ g, g = w.heap.size := ⟨_, rfl⟩
  have hX : Blk w1 gx 26 #[.int .i64 p.mem, .slice p.AD p.data.length p.cD, .slice p.AF p.fs.length p.cF] := by rw [hw1, hgx]; exact Blk.new _ _ _
  have hP1 := hp.below hb1
  obtain ⟨g, hgf⟩ : ∃ g, p.fs[f]? = some g := ⟨_, List.getElem?_eq_getElem hf⟩
  have hgN : g.code.length = N := by rw [hNl]; exact (PrgM.len_plain hgf).symm
  obtain ⟨b0, off0, hA, hb0, q0, q1, q2, q3, hFn, hFl⟩ := hP1.fn hgf
  rw [hA] at hX
  have x2 : w1.cell? ⟨gx, 2, none⟩ = some (.slice (some ⟨b0, off0, none⟩) p.fs.length p.cF) := hX.cell 2
  have xl := hX.lt
  have g3 : (f : Int) < (p.fs.length : Int) := by omega
  have hmkI := run_ints N (by omega)
  rw [hgN] at q3
  obtain ⟨i0, hi0⟩ : ∃ i, g.code[0]? = some i := ⟨_, List.getElem?_eq_getElem (by omega)⟩
  obtain ⟨b1, off1, hA1, hb1z, -, -, -, -⟩ := hFn.ins hi0
  rw [hA1] at q3
  have hins : ∀ (n : Nat) i, g.code[n]? = some i → w1.cell? ⟨b1, off1 + n * 2, none⟩ = some (.int .i64 i.op) ∧ w1.cell? ⟨b1, off1 + n * 2 + 1, none⟩ = some (.int .i64 i.a) ∧ b1 < w1.heap.size := fun n i hi => by
    obtain ⟨b2, off2, hA2, k1, k2, k3, -, -⟩ := hFn.ins hi
    have hAe := hA1.symm.trans hA2
    injection hAe with hAe
    injection hAe with e1 e2
    subst e1 e2
    exact ⟨k2, k3, k1⟩
  have Hins := Lib.hid hins
  have Hres := Lib.hid (show w1.cell? ⟨b0, off0 + f * 4 + 2, none⟩ = some (.int .i64 g.results) ∧ b0 < w1.heap.size from ⟨q2, hb0⟩)
  have HX := Lib.hid hX
  have HP1 := Lib.hid hP1
  have HB1 := Lib.hid hb1
  have Hw1 := Lib.hid hw1
  have Hgx := Lib.hid hgx
  have HA := Lib.hid hA
  have Hgf := Lib.hid hgf
  have HNl := Lib.hid hNl
  have HgN := Lib.hid hgN
  have Htl := Lib.hid htlE
  have HTq := Lib.hid (hr.below hb1)
  have Hg := Lib.hid hg
  have Hrs := Lib.hid (show p.plain.results f = g.results from PrgM.results_plain hgf)
  clear hp hr hw1 hb1 hX hP1 hgx q0 q1 q2 hA hFn hgf hNl hgN htlE hi0 hA1 hb1z hins hg hFl
  go_enter Try.func28, Try.ntmps28
  go_upto_region 1 with (fail)
  rw [← Hw1.out, ← Hgx.out]
  clear Hw1 Hgx
  go_upto_region 3 with (fail)
  obtain ⟨w2, hw2⟩ : ∃ w2, w2 = w1.alloc (.cells (Array.replicate N (iv 0)) 3) := ⟨_, rfl⟩
  obtain ⟨gH, hgH⟩ : ∃ g, g = w1.heap.size := ⟨_, rfl⟩
  have hO2 : Only (fun q => q = gH) w1 w2 := by rw [hw2]; exact Only.of_fresh ((Below.refl _ _).alloc (Nat.le_refl _) _)
  have hH2 : OwnI w2 0 (some ⟨gH, 0, none⟩) N N (0 :: (List.replicate 0 (-1) ++ List.replicate (N - 1 - 0) 0)) := by
    rw [show (0 : Int) :: (List.replicate 0 (-1) ++ List.replicate (N - 1 - 0) 0) = List.replicate N 0 from by
      obtain ⟨M, rfl⟩ : ∃ M, N = M + 1 := ⟨N - 1, by omega⟩
      rw [List.replicate_succ]; rfl, hw2, hgH, show Array.replicate N (iv 0) = ((List.replicate N 0).map iv).toArray from by simp]
    exact (OwnI.lit w1 N (by omega) _ (by simp)).mono (Nat.zero_le _)
  have HO2 := Lib.hid hO2
  have HH2 := Lib.hid hH2
  have HgH := Lib.hid hgH
  have Hw2 := Lib.hid hw2
  clear hw2 hgH hO2 hH2
  rw [← Hw2.out, ← HgH.out]
  clear Hw2 hmkI q3
  go_wp2_with fail
  go_loopw [10] (fun i wr => ∃ k : Nat, k + 1 ≤ N ∧ i = .int .i64 ((k : Int) + 1) ∧ OwnI wr 0 (some ⟨gH, 0, none⟩) N N (0 :: (List.replicate k (-1) ++ List.replicate (N - 1 - k) 0)) ∧ Only (fun q => q = gH) w1 wr) (fun i _ => N - (intOf i).toNat)
  case atStart => exact ⟨0, by omega, rfl, HH2.out, HO2.out⟩
  case round =>
    rename World => wa
    obtain ⟨k, hk, rfl, hH, hO⟩ := hrel
    have HHk := Lib.hid hH
    have HOk := Lib.hid hO
    by_cases hlt : k + 1 < N
    · have g1 : (k : Int) + 1 < (N : Int) := by omega
      have hl : k + 1 < ((0 : Int) :: (List.replicate k (-1) ++ List.replicate (N - 1 - k) 0)).length := by simp; omega
      have c0 := OwnI.at_ hH (k + 1) hl
      obtain ⟨cf, cl⟩ := OwnI.room hH (k + 1) hl
      generalize ((0 : Int) :: (List.replicate k (-1) ++ List.replicate (N - 1 - k) 0))[k + 1]'hl = y at c0
      have HHn := Lib.hid (show OwnI (wa.setCell ⟨gH, k + 1, none⟩ (.int .i64 (-1))) 0 (some ⟨gH, 0, none⟩) N N (0 :: (List.replicate (k + 1) (-1) ++ List.replicate (N - 1 - (k + 1)) 0)) from by
        have h1 := hH.put (k + 1) (-1)
        rw [List.set_cons_succ, rep_next k (N - 1) (by omega)] at h1
        exact h1)
      have HOn := Lib.hid (hO.setCell (p := ⟨gH, k + 1, none⟩) (.inl rfl) (.int .i64 (-1)))
      clear hH hO hl
      go_wp2_with fail
      exact ⟨⟨k + 1, by omega, by first | rfl | go_num, HHn.out, HOn.out⟩, by simp [intOf]; omega⟩
    · have g1 : ¬ (k : Int) + 1 < (N : Int) := by omega
      have HHf := Lib.hid (show OwnI wa 0 (some ⟨gH, 0, none⟩) N N (h0L N) from by
        have hkN : N = k + 1 := by omega
        have h1 := HHk.out
        rw [show N - 1 - k = 0 from by omega, List.replicate_zero, List.append_nil] at h1
        unfold h0L
        rw [show (List.replicate N (-1 : Int)).set 0 0 = 0 :: List.replicate k (-1) from by rw [hkN, List.replicate_succ, List.set_cons_zero]]
        exact h1)
      clear hH hO HHk HH2 HO2
      go_upto_region 8 with (fail)
      obtain ⟨wb, hwb⟩ : ∃ w', w' = wa.alloc (.cells #[.int .i64 0] 3) := ⟨_, rfl⟩
      obtain ⟨gR0, hgR0⟩ : ∃ g, g = wa.heap.size := ⟨_, rfl⟩
      have hbab : Below wa.heap.size wa wb := by rw [hwb]; exact (Below.refl _ _).alloc (Nat.le_refl _) _
      have HR0 := Lib.hid (show OwnI wb gR0 (some ⟨gR0, 0, none⟩) 1 1 [0] from by
        rw [hwb, hgR0]
        exact OwnI.lit wa 1 (by omega) [0] rfl)
      have HHb := Lib.hid (Own.below HHf.out hbab (Nat.le_refl _))
      have HBb := Lib.hid (show Below w1.heap.size w1 wb from (HOk.out.below (B := w1.heap.size) (Nat.le_refl _) fun q hq e => by have := HgH.out; omega).trans (hbab.mono HOk.out.size))
      have HgR := Lib.hid (show gH < gR0 ∧ w1.heap.size ≤ gR0 from ⟨by rw [hgR0]; exact (Own.row HHf.out gH rfl).2, by rw [hgR0]; exact HOk.out.size⟩)
      have Hwb := Lib.hid hwb
      have HgR0 := Lib.hid hgR0
      clear hwb hgR0 hbab HHf
      rw [← Hwb.out, ← HgR0.out]
      clear Hwb HgR0 HOk
      go_wp2_with fail
      go_loopw [11, 12] (fun rv nv wr => ∃ (h rw : List Int) (A : Option Addr) (n c m : Nat), rv = .slice A n c ∧ nv = .int .i64 (m : Int) ∧ Hid (TMid p.plain f NoSkip h rw) ∧ OwnI wr 0 (some ⟨gH, 0, none⟩) N N h ∧ OwnI wr gR0 A n c rw ∧ Hid (rw.length = n ∧ m + blanks h + n = N) ∧ Below w1.heap.size w1 wr) (fun _ nv _ => N - (intOf nv).toNat)
      case atStart =>
        refine ⟨h0L N, [0], some ⟨gR0, 0, none⟩, 1, 1, 0, rfl, rfl, Lib.hid ?_, HHb.out, HR0.out, Lib.hid ⟨rfl, ?_⟩, HBb.out⟩
        · have h1 := TMid.start (P := p.plain) (f := f) (by rw [← HNl.out]; exact hN0)
          rw [← HNl.out] at h1
          exact h1
        · obtain ⟨M, rfl⟩ : ∃ M, N = M + 1 := ⟨N - 1, by omega⟩
          unfold h0L blanks
          rw [List.replicate_succ, List.set_cons_zero, List.countP_cons_of_neg (by decide), List.countP_replicate]
          simp
      case round =>
        clear HHb HR0 HBb
        rename World => wr
        obtain ⟨h, rw_, A, n, c, m, rfl, rfl, HT, hH, hR, Hmu, hB⟩ := hrel
        have HHr := Lib.hid hH
        have HRr := Lib.hid hR
        have HBr := Lib.hid hB
        clear hH hR hB
        by_cases hn0 : n = 0
        · subst hn0
          have HFin := Lib.hid (show HFin p.plain f h from by
            have h1 := HT.out
            have h2 : rw_ = [] := List.length_eq_zero_iff.1 Hmu.out.1
            rw [h2] at h1
            exact h1.fin)
          have HhN := Lib.hid (show h.length = N from by rw [HNl.out]; exact HFin.out.len)
          go_wp2_with fail
          refine bodyPost_ret (v := .tuple #[.slice (some ⟨gH, 0, none⟩) N N, .bool true]) ?_ rfl ⟨HB1.out.trans (HBr.out.mono HB1.out.size), .inl ⟨h, some ⟨gH, 0, none⟩, N, by rw [HhN.out], HFin.out, RV.of_own HHr.out⟩⟩
          simp [results, Try.results28, go_sem]
        · obtain ⟨L, rfl⟩ : ∃ L, n = L + 1 := ⟨n - 1, by omega⟩
          obtain ⟨gR, rfl, hgR1, hgR2⟩ := own_some HRr.out (by omega)
          have gl : 0 < (L : Int) + 1 := by omega
          have HgR2 := Lib.hid (show gR0 ≤ gR ∧ gR < wr.heap.size from ⟨hgR1, hgR2⟩)
          have hLc : L + 1 ≤ c := Own.le_cap HRr.out
          have hmN : m < N := by have := Hmu.out.2; omega
          have hLN : L < N := by have := Hmu.out.2; omega
          clear hgR1 hgR2
          go_upto_if 48 with (fail)
          go_cut [13] from 41 to 198 (fun s wx => ∃ k : Nat, k ≤ L ∧ s = .int .i64 (k : Int) ∧ ∃ q, wx = wr.drewN q)
          case first =>
            as_aux_lemma =>
            by_cases htn : 0 < tl
            · have hml : m % tl < tl := Nat.mod_lt _ htn
              have hml2 : m % tl < ts.length := by rw [← Htl.out]; exact hml
              have hRT := HTq.out.below HBr.out
              obtain ⟨tb, toff, rfl, htb, hc⟩ := hRT.at_ (by rw [List.length_map, ← Htl.out]; exact htn)
              have hct : wr.cell? ⟨tb, toff + m % tl, none⟩ = some (.int .i64 (ts[m % tl]'hml2)) := hc _ _ (by simp [List.getElem?_eq_getElem hml2])
              have e1 : (m : Int).tmod (tl : Int) = ((m % tl : Nat) : Int) := by
                rw [Int.tmod_eq_emod_of_nonneg (by omega)]; exact (Int.natCast_emod _ _).symm
              have g2 : 0 < (tl : Int) := by omega
              have g3 : ((tl : Int) == 0) = false := by rw [beq_eq_false_iff_ne]; omega
              generalize ts[m % tl]'hml2 = tv at *
              generalize m % tl = tm at *
              have h01 := Int.emod_nonneg tv (show ((L + 1 : Nat) : Int) ≠ 0 by omega)
              have h02 := Int.emod_lt_of_pos tv (show (0 : Int) < ((L + 1 : Nat) : Int) by omega)
              obtain ⟨k, hk⟩ : ∃ k : Nat, (k : Int) = tv % ((L + 1 : Nat) : Int) := ⟨(tv % ((L + 1 : Nat) : Int)).toNat, by omega⟩
              have Hrd := Lib.hid (fun w' => round13_any tv (L + 1) k hk (by omega) (by omega) w')
              have hk2 : k ≤ L := by omega
              clear hc h01 h02 hk hRT hml2
              go_wp2_with fail
              refine (Hrd.out _).mono ?_
              rintro e wx ⟨rfl, rfl⟩
              go_wp2_with fail
              go_meet
              case rel => exact ⟨k, hk2, rfl, 0, rfl⟩
            · have g2 : ¬ 0 < (tl : Int) := by omega
              go_wp2_with fail
              go_meet
              case rel => exact ⟨0, by omega, rfl, 0, rfl⟩
          case rest =>
            obtain ⟨k, hk, rfl, q, rfl⟩ := hcut
            have hbd : Below wr.heap.size wr (wr.drewN q) := below_drewN (Below.refl wr.heap.size wr) q
            have HHp := Lib.hid (Own.below HHr.out hbd (Nat.le_refl _))
            have HRp := Lib.hid (Own.below HRr.out hbd (Nat.le_refl _))
            have HBp := Lib.hid (HBr.out.trans (hbd.mono HBr.out.size))
            clear hbd HHr HRr HBr HgR2
            generalize wr.drewN q = wp at *
            have hnl : rw_.length = L + 1 := Hmu.out.1
            obtain ⟨y, hy⟩ : ∃ y, rw_[k]? = some y := ⟨_, List.getElem?_eq_getElem (by omega)⟩
            obtain ⟨v, x, rfl, hx, hx0⟩ := HT.out.rows y (List.mem_of_getElem? hy)
            obtain ⟨lv, hlv⟩ : ∃ lv, rw_[L]? = some lv := ⟨_, List.getElem?_eq_getElem (by omega)⟩
            have hhN : h.length = N := by rw [HNl.out]; exact HT.out.len
            have hvN : v < N := by rw [← hhN]; exact (List.getElem?_eq_some_iff.1 hx).1
            have hx256 : x ≤ 256 := (HT.out.bnd v x hx).2
            have HT2 := Lib.hid (HT.out.takeL hnl hlv hy)
            have c0 : wp.cell? ⟨gR, k, none⟩ = some (.int .i64 (v : Int)) := by
              have h1 := OwnI.at_ HRp.out k (by omega)
              rw [(List.getElem?_eq_some_iff.1 hy).2] at h1
              exact h1
            have c1 : wp.cell? ⟨gR, L, none⟩ = some (.int .i64 lv) := by
              have h1 := OwnI.at_ HRp.out L (by omega)
              rw [(List.getElem?_eq_some_iff.1 hlv).2] at h1
              exact h1
            obtain ⟨cf, cl⟩ := OwnI.room HRp.out k (by omega)
            have hgR : gR0 ≤ gR := (Own.row HRp.out gR rfl).1
            obtain ⟨i, hi⟩ := Prg.ins_ex (P := p.plain) (f := f) (n := v) (by rw [← HNl.out]; exact hvN)
            have hI := ins_facts Hg.out.chk hi
            have hi2 : g.code[v]? = some i := by have h := hi; rw [p.ins_plain, Hgf.out, Option.bind_some] at h; exact h
            have hjmp := fun h => good_jump Hg.out hi h
            obtain ⟨w4, hw4⟩ : ∃ w4, w4 = wp.setCell ⟨gR, k, none⟩ (.int .i64 lv) := ⟨_, rfl⟩
            have hB4 : Below w1.heap.size w1 w4 := by rw [hw4]; exact HBp.out.setCell (show w1.heap.size ≤ (⟨gR, k, none⟩ : Addr).block from Nat.le_trans HgR.out.2 hgR) _
            have hR4 : OwnI w4 gR0 (some ⟨gR, 0, none⟩) L c ((rw_.set k lv).take L) := by
              rw [hw4]
              exact OwnI.cut (OwnI.put HRp.out k lv) (Nat.le_succ L)
            have hTA4 : TAt p f g b0 off0 b1 off1 gx gH N h w4 := by
              obtain ⟨hc, -⟩ := bcell hB4
              have hz := hB4.size
              refine ⟨HX.out.below hB4 HX.out.lt, HP1.out.below hB4, ?_, ⟨(hc _ _ Hres.out.2).trans Hres.out.1, Nat.lt_of_lt_of_le Hres.out.2 hz⟩, fun n i hi => ?_⟩
              · rw [hw4]
                exact Own.fars HHp.out (fun e => by have e2 := Option.some.inj e; change gH = gR at e2; have := HgR.out.1; omega) _
              · obtain ⟨h1, h2, h3⟩ := Hins.out n i hi
                exact ⟨(hc _ _ h3).trans h1, (hc _ _ h3).trans h2, Nat.lt_of_lt_of_le h3 hz⟩
            have hr4l : gR < w4.heap.size := (Own.row hR4 gR rfl).2
            have HR4 := Lib.hid hR4
            have HTA4 := Lib.hid hTA4
            have HB4 := Lib.hid hB4
            have Hw4 := Lib.hid hw4
            have Hx := Lib.hid hx
            have Hi := Lib.hid hi
            have Hi2 := Lib.hid hi2
            have HI := Lib.hid hI
            have Hjmp := Lib.hid hjmp
            have HhN := Lib.hid hhN
            have Hnl := Lib.hid hnl
            have HgRw := Lib.hid (show gR0 ≤ gR ∧ gR < w4.heap.size from ⟨hgR, hr4l⟩)
            have ht0 := hI.t0
            have ht1 := hI.t1
            have hg0 := hI.g0
            have hg1 := hI.g1
            obtain ⟨TT, hT⟩ : ∃ T, T = takesL p.plain f v := ⟨_, rfl⟩
            rw [← hT] at ht0 ht1 hg0 hg1
            obtain ⟨bh, hbh⟩ : ∃ b, b = x - TT.1 + TT.2 := ⟨_, rfl⟩
            have Hbh := Lib.hid (show bh = x - (takesL p.plain f v).1 + (takesL p.plain f v).2 from by rw [hbh, hT])
            have hw1e : IntKind.i64.wrap (x - TT.1) = x - TT.1 := by rw [IntKind.wrap_i64]; omega
            have hw2e : IntKind.i64.wrap (x - TT.1 + TT.2) = bh := by rw [IntKind.wrap_i64, hbh]; omega
            obtain ⟨gP, hgP⟩ : ∃ g, g = w4.heap.size := ⟨_, rfl⟩
            obtain ⟨w5, hw5⟩ : ∃ w5, w5 = w4.alloc (.cells #[.int .i64 (f : Int), .int .i64 (v : Int)] 35) := ⟨_, rfl⟩
            have hb5 : Below w4.heap.size w4 w5 := by rw [hw5]; exact (Below.refl _ _).alloc (Nat.le_refl _) _
            have hS5 : Blk w5 gP 35 #[.int .i64 (f : Int), .int .i64 (v : Int)] := by rw [hw5, hgP]; exact Blk.new _ _ _
            have Hpv := Lib.hid (show p.val = .agg #[.int .i64 p.mem, .slice p.AD p.data.length p.cD, .slice (some ⟨b0, off0, none⟩) p.fs.length p.cF] from by show Value.agg #[.int .i64 p.mem, .slice p.AD p.data.length p.cD, .slice p.AF p.fs.length p.cF] = _; rw [HA.out])
            have hTA5 := hTA4.below hb5
            have HTa := Lib.hid (show Calls Try.prog 19 #[.agg #[.int .i64 p.mem, .slice p.AD p.data.length p.cD, .slice (some ⟨b0, off0, none⟩) p.fs.length p.cF], .agg #[.int .i64 (f : Int), .int .i64 (v : Int)]] w5 (TakesPost w5 TT) from by rw [← Hpv.out, hT]; exact takes_any p f v w5 hTA5.prg)
            have x05 : w5.cell? ⟨gx, 0, none⟩ = some (.int .i64 p.mem) := hTA5.x.cell 0
            have x15 : w5.cell? ⟨gx, 1, none⟩ = some (.slice p.AD p.data.length p.cD) := hTA5.x.cell 1
            have x25 : w5.cell? ⟨gx, 2, none⟩ = some (.slice (some ⟨b0, off0, none⟩) p.fs.length p.cF) := hTA5.x.cell 2
            have xl5 := hTA5.x.lt
            have s05 : w5.cell? ⟨gP, 0, none⟩ = some (.int .i64 (f : Int)) := hS5.cell 0
            have s15 : w5.cell? ⟨gP, 1, none⟩ = some (.int .i64 (v : Int)) := hS5.cell 1
            have sl5 := hS5.lt
            have HS5 := Lib.hid hS5
            have Hb5 := Lib.hid hb5
            have Hw5 := Lib.hid hw5
            have HgP := Lib.hid hgP
            have gk : (k : Int) < (L : Int) + 1 := by omega
            have gL2 : (L : Int) < (L : Int) + 1 := by omega
            have hs1 : ((L : Int) + 1 - 1) = (L : Int) := by omega
            have hs2 : IntKind.i64.wrap (L : Int) = (L : Int) := by rw [IntKind.wrap_i64]; omega
            have hcut := fun w' => run_cut1 w' gR (L + 1) c L (by omega)
            have gv : (v : Int) < (N : Int) := by omega
            clear hnl hy hlv hhN hx hgR hi hI hi2 hjmp hw4 hB4 hR4 hTA4 hr4l hT hbh hgP hw5 hb5 hS5 hTA5
            go_upto_region 16 with (fail)
            rw [← Hw4.out]
            clear Hw4 c0 c1 cf cl
            go_upto_region 18 with (fail)
            rw [← Hw5.out, ← HgP.out]
            clear Hw5 hcut
            go_wp2_with fail
            refine HTa.out.mono ?_
            rintro e w6 ⟨rfl, hb6⟩
            have hTA6 := (HTA4.out.below Hb5.out).below hb6
            have hS6 := HS5.out.below hb6 HS5.out.lt
            have HB46 := Lib.hid (Hb5.out.trans (hb6.mono Hb5.out.size))
            have HTA6 := Lib.hid hTA6
            have HS6 := Lib.hid hS6
            have hx6 : w6.cell? ⟨gH, v, none⟩ = some (.int .i64 x) := by
              have h1 := OwnI.at_ hTA6.own v (by rw [HhN.out]; exact hvN)
              rw [(List.getElem?_eq_some_iff.1 Hx.out).2] at h1
              exact h1
            have hl6 := (OwnI.room hTA6.own v (by rw [HhN.out]; exact hvN)).2
            have x06 : w6.cell? ⟨gx, 0, none⟩ = some (.int .i64 p.mem) := hTA6.x.cell 0
            have x16 : w6.cell? ⟨gx, 1, none⟩ = some (.slice p.AD p.data.length p.cD) := hTA6.x.cell 1
            have x26 : w6.cell? ⟨gx, 2, none⟩ = some (.slice (some ⟨b0, off0, none⟩) p.fs.length p.cF) := hTA6.x.cell 2
            have xl6 := hTA6.x.lt
            have s06 : w6.cell? ⟨gP, 0, none⟩ = some (.int .i64 (f : Int)) := hS6.cell 0
            have s16 : w6.cell? ⟨gP, 1, none⟩ = some (.int .i64 (v : Int)) := hS6.cell 1
            have sl6 := hS6.lt
            obtain ⟨op, aa⟩ := i
            obtain ⟨o06, o16, ol6⟩ : w6.cell? ⟨b1, off1 + v * 2, none⟩ = some (.int .i64 op) ∧ w6.cell? ⟨b1, off1 + v * 2 + 1, none⟩ = some (.int .i64 aa) ∧ b1 < w6.heap.size := hTA6.ins v _ Hi2.out
            obtain ⟨rs, hrs⟩ : ∃ r, r = g.results := ⟨_, rfl⟩
            obtain ⟨rs6, rl6⟩ := hTA6.res
            rw [← hrs] at rs6
            have Hrs2 := Lib.hid (show p.plain.results f = rs from by rw [hrs]; exact Hrs.out)
            obtain ⟨W, hW⟩ : ∃ W, W = wantsI p.plain f v ⟨op, aa⟩ := ⟨_, rfl⟩
            have HWn := Lib.hid (show Calls Try.prog 59 #[.agg #[.int .i64 p.mem, .slice p.AD p.data.length p.cD, .slice (some ⟨b0, off0, none⟩) p.fs.length p.cF], .agg #[.int .i64 (f : Int), .int .i64 (v : Int)]] w6.drew (fun e w' => e = .returned (.int .i64 W) ∧ Below w6.drew.heap.size w6.drew w') from by rw [← Hpv.out, hW]; exact wants13_any p f v ⟨op, aa⟩ w6.drew (hTA6.prg.below ((Below.refl _ w6).drew)) Hi.out (fun h5 => by have := (HI.out.copy h5).2.2; omega))
            have HW := Lib.hid hW
            clear x05 x15 x25 xl5 s05 s15 sl5 hb6 hTA6 hS6 hrs hW HTa
            go_upto_if 126 with (fail)
            go_cut [126] from 86 to 198 (fun s wx => ∃ bb : Bool, s = .bool bb ∧ Hid (bb = true ↔ badT p.plain f v ⟨op, aa⟩ x) ∧ Below w6.heap.size w6 wx)
            case first =>
              by_cases hWx : x < W
              · as_aux_lemma =>
                  go_upto_region 20 with (fail)
                  obtain ⟨SC, hSCd⟩ : ∃ S : World → Prop, S = fun w' => (w'.cell? ⟨gH, v, none⟩ = some (.int .i64 x) ∧ gH < w'.heap.size) ∧ (w'.cell? ⟨gx, 0, none⟩ = some (.int .i64 p.mem) ∧ w'.cell? ⟨gx, 1, none⟩ = some (.slice p.AD p.data.length p.cD) ∧ w'.cell? ⟨gx, 2, none⟩ = some (.slice (some ⟨b0, off0, none⟩) p.fs.length p.cF) ∧ gx < w'.heap.size) ∧ (w'.cell? ⟨gP, 0, none⟩ = some (.int .i64 (f : Int)) ∧ w'.cell? ⟨gP, 1, none⟩ = some (.int .i64 (v : Int)) ∧ gP < w'.heap.size) ∧ (w'.cell? ⟨b1, off1 + v * 2, none⟩ = some (.int .i64 op) ∧ b1 < w'.heap.size) ∧ (w'.cell? ⟨b0, off0 + f * 4 + 2, none⟩ = some (.int .i64 rs) ∧ b0 < w'.heap.size) := ⟨_, rfl⟩
                  have hSC : SC w6.drew := by rw [hSCd]; exact ⟨⟨hx6, hl6⟩, ⟨x06, x16, x26, xl6⟩, ⟨s06, s16, sl6⟩, ⟨o06, ol6⟩, ⟨rs6, rl6⟩⟩
                  have HSC := Lib.hid (show SC w6.drew from hSC)
                  have HSd := Lib.hid hSCd
                  clear hSC hSCd
                  refine region_heldT 33 SC (by kernel_rfl) (by decide) ?_
                  refine HeadW.takeA 0 (v := .agg #[.int .i64 p.mem, .slice p.AD p.data.length p.cD, .slice (some ⟨b0, off0, none⟩) p.fs.length p.cF]) rfl (by kernel_rfl) rfl (by decide) (fun _ _ _ hL => seqB_ready hL.1) (by kernel_rfl) (by kernel_rfl) (fun _ _ _ h => h) HSC.out (.inl ⟨by kernel_rfl, by intro w hSw; rw [HSd.out] at hSw; obtain ⟨⟨e0, l0⟩, ⟨e1, e2, e3, l1⟩, ⟨e4, e5, l2⟩, ⟨e6, l3⟩, ⟨e7, l4⟩⟩ := hSw; go_simp⟩) ?_
                  simp only [Act.put, List.setIfInBounds_toArray]
                  refine HeadW.takeA 1 (v := .agg #[.int .i64 (f : Int), .int .i64 (v : Int)]) rfl (by kernel_rfl) rfl (by decide) (fun _ _ _ hL => seqB_ready hL.1) (by kernel_rfl) (by kernel_rfl) (fun _ _ _ h => h) HSC.out (.inl ⟨by kernel_rfl, by intro w hSw; rw [HSd.out] at hSw; obtain ⟨⟨e0, l0⟩, ⟨e1, e2, e3, l1⟩, ⟨e4, e5, l2⟩, ⟨e6, l3⟩, ⟨e7, l4⟩⟩ := hSw; go_simp⟩) ?_
                  simp only [Act.put]
                  refine HeadW.takeA 3 (v := .slice (some ⟨gH, 0, none⟩) N N) rfl (by kernel_rfl) rfl (by decide) (fun _ _ _ hL => seqB_ready hL.1) (by kernel_rfl) (by kernel_rfl) (fun _ _ _ h => h) HSC.out (.inl ⟨by kernel_rfl, by intro w hSw; rw [HSd.out] at hSw; obtain ⟨⟨e0, l0⟩, ⟨e1, e2, e3, l1⟩, ⟨e4, e5, l2⟩, ⟨e6, l3⟩, ⟨e7, l4⟩⟩ := hSw; go_simp⟩) ?_
                  simp only [Act.put]
                  refine HeadW.takeA 4 (v := .int .i64 (v : Int)) rfl (by kernel_rfl) rfl (by decide) (fun _ _ _ hL => seqB_ready hL.1) (by kernel_rfl) (by kernel_rfl) (fun _ _ _ h => h) HSC.out (.inl ⟨by kernel_rfl, by intro w hSw; rw [HSd.out] at hSw; obtain ⟨⟨e0, l0⟩, ⟨e1, e2, e3, l1⟩, ⟨e4, e5, l2⟩, ⟨e6, l3⟩, ⟨e7, l4⟩⟩ := hSw; go_simp⟩) ?_
                  simp only [Act.put]
                  refine HeadW.takeA 5 (v := .pointer (some ⟨gH, v, none⟩)) rfl (by kernel_rfl) rfl (by decide) (fun _ _ _ hL => seqB_ready hL.1) (by kernel_rfl) (by kernel_rfl) (fun _ _ _ h => h) HSC.out (.inl ⟨by kernel_rfl, by intro w hSw; rw [HSd.out] at hSw; obtain ⟨⟨e0, l0⟩, ⟨e1, e2, e3, l1⟩, ⟨e4, e5, l2⟩, ⟨e6, l3⟩, ⟨e7, l4⟩⟩ := hSw; go_simp⟩) ?_
                  simp only [Act.put]
                  refine HeadW.takeA 6 (v := .int .i64 x) rfl (by kernel_rfl) rfl (by decide) (fun _ _ _ hL => seqB_ready hL.1) (by kernel_rfl) (by kernel_rfl) (fun _ _ _ h => h) HSC.out (.inl ⟨by kernel_rfl, by intro w hSw; rw [HSd.out] at hSw; obtain ⟨⟨e0, l0⟩, ⟨e1, e2, e3, l1⟩, ⟨e4, e5, l2⟩, ⟨e6, l3⟩, ⟨e7, l4⟩⟩ := hSw; go_simp⟩) ?_
                  simp only [Act.put]
                  refine headW_one 2 rfl (by decide) (by kernel_rfl) (by kernel_rfl) fun K hK => ?_
                  go_simp
                  refine HWn.out.mono ?_
                  rintro e w7 ⟨rfl, hb7⟩
                  have hb67 : Below w6.heap.size w6 w7 := (Below.refl _ w6).drew.trans hb7
                  have HB67 := Lib.hid hb67
                  have hSC7 : SC w7 := by
                    have h := HSC.out
                    rw [HSd.out] at h ⊢
                    obtain ⟨⟨e0, l0⟩, ⟨e1, e2, e3, l1⟩, ⟨e4, e5, l2⟩, ⟨e6, l3⟩, ⟨e7, l4⟩⟩ := h
                    obtain ⟨hc, -⟩ := bcell hb67
                    have hz := hb67.size
                    exact ⟨⟨(hc _ _ l0).trans e0, by omega⟩, ⟨(hc _ _ l1).trans e1, (hc _ _ l1).trans e2, (hc _ _ l1).trans e3, by omega⟩, ⟨(hc _ _ l2).trans e4, (hc _ _ l2).trans e5, by omega⟩, ⟨(hc _ _ l3).trans e6, by omega⟩, ⟨(hc _ _ l4).trans e7, by omega⟩⟩
                  refine hK.out _ _ hSC7 (fun hHeld => ?_)
                  clear hK K hHeld hb7 hb67
                  try simp only [List.getElem_toArray, List.getElem_cons_succ, List.getElem_cons_zero, List.setIfInBounds_toArray, List.set_cons_succ, List.set_cons_zero]
                  refine HeadW.takeA 7 (v := .bool true) rfl (by kernel_rfl) rfl (by decide) (fun _ _ _ hL => seqB_ready hL.1) (by kernel_rfl) (by kernel_rfl) (fun _ _ _ h => h) hSC7 (.inl ⟨by kernel_rfl, by intro w hSw; rw [HSd.out] at hSw; obtain ⟨⟨e0, l0⟩, ⟨e1, e2, e3, l1⟩, ⟨e4, e5, l2⟩, ⟨e6, l3⟩, ⟨e7, l4⟩⟩ := hSw; go_simp⟩) ?_
                  simp only [Act.put]
                  refine HeadW.takeA 8 (v := .bool true) rfl (by kernel_rfl) rfl (by decide) (fun _ _ _ hL => seqB_ready hL.1) (by kernel_rfl) (by kernel_rfl) (fun _ _ _ h => h) hSC7 (.inl ⟨by kernel_rfl, by intro w hSw; rw [HSd.out] at hSw; obtain ⟨⟨e0, l0⟩, ⟨e1, e2, e3, l1⟩, ⟨e4, e5, l2⟩, ⟨e6, l3⟩, ⟨e7, l4⟩⟩ := hSw; go_simp⟩) ?_
                  simp only [Act.put]
                  refine HeadW.takeA 9 (v := undef) rfl (by kernel_rfl) rfl (by decide) (fun _ _ _ hL => seqB_ready hL.1) (by kernel_rfl) (by kernel_rfl) (fun _ _ _ h => h) hSC7 (.inr ⟨by kernel_rfl, rfl⟩) ?_
                  simp only [Act.put]
                  try simp only [List.getElem_toArray, List.getElem_cons_succ, List.getElem_cons_zero, List.setIfInBounds_toArray, List.set_cons_succ, List.set_cons_zero]
                  refine HeadW.takeA 10 (v := undef) rfl (by kernel_rfl) rfl (by decide) (fun _ _ _ hL => seqB_ready hL.1) (by kernel_rfl) (by kernel_rfl) (fun _ _ _ h => h) hSC7 (.inr ⟨by kernel_rfl, rfl⟩) ?_
                  simp only [Act.put]
                  refine HeadW.takeA 11 (v := .bool true) rfl (by kernel_rfl) rfl (by decide) (fun _ _ _ hL => seqB_ready hL.1) (by kernel_rfl) (by kernel_rfl) (fun _ _ _ h => h) hSC7 (.inl ⟨by kernel_rfl, by intro w hSw; rw [HSd.out] at hSw; obtain ⟨⟨e0, l0⟩, ⟨e1, e2, e3, l1⟩, ⟨e4, e5, l2⟩, ⟨e6, l3⟩, ⟨e7, l4⟩⟩ := hSw; go_simp⟩) ?_
                  simp only [Act.put]
                  refine HeadW.takeA 12 (v := .bool true) rfl (by kernel_rfl) rfl (by decide) (fun _ _ _ hL => seqB_ready hL.1) (by kernel_rfl) (by kernel_rfl) (fun _ _ _ h => h) hSC7 (.inl ⟨by kernel_rfl, by intro w hSw; rw [HSd.out] at hSw; obtain ⟨⟨e0, l0⟩, ⟨e1, e2, e3, l1⟩, ⟨e4, e5, l2⟩, ⟨e6, l3⟩, ⟨e7, l4⟩⟩ := hSw; go_simp⟩) ?_
                  simp only [Act.put]
                  try simp only [List.getElem_toArray, List.getElem_cons_succ, List.getElem_cons_zero, List.setIfInBounds_toArray, List.set_cons_succ, List.set_cons_zero]
                  refine HeadW.takeA 13 (v := undef) rfl (by kernel_rfl) rfl (by decide) (fun _ _ _ hL => seqB_ready hL.1) (by kernel_rfl) (by kernel_rfl) (fun _ _ _ h => h) hSC7 (.inr ⟨by kernel_rfl, rfl⟩) ?_
                  simp only [Act.put]
                  refine HeadW.takeA 14 (v := undef) rfl (by kernel_rfl) rfl (by decide) (fun _ _ _ hL => seqB_ready hL.1) (by kernel_rfl) (by kernel_rfl) (fun _ _ _ h => h) hSC7 (.inr ⟨by kernel_rfl, rfl⟩) ?_
                  simp only [Act.put]
                  refine HeadW.takeA 15 (v := undef) rfl (by kernel_rfl) rfl (by decide) (fun _ _ _ hL => seqB_ready hL.1) (by kernel_rfl) (by kernel_rfl) (fun _ _ _ h => h) hSC7 (.inr ⟨by kernel_rfl, rfl⟩) ?_
                  simp only [Act.put]
                  try simp only [List.getElem_toArray, List.getElem_cons_succ, List.getElem_cons_zero, List.setIfInBounds_toArray, List.set_cons_succ, List.set_cons_zero]
                  refine HeadW.takeA 16 (v := undef) rfl (by kernel_rfl) rfl (by decide) (fun _ _ _ hL => seqB_ready hL.1) (by kernel_rfl) (by kernel_rfl) (fun _ _ _ h => h) hSC7 (.inr ⟨by kernel_rfl, rfl⟩) ?_
                  simp only [Act.put]
                  refine HeadW.takeA 17 (v := undef) rfl (by kernel_rfl) rfl (by decide) (fun _ _ _ hL => seqB_ready hL.1) (by kernel_rfl) (by kernel_rfl) (fun _ _ _ h => h) hSC7 (.inr ⟨by kernel_rfl, rfl⟩) ?_
                  simp only [Act.put]
                  refine HeadW.takeA 18 (v := undef) rfl (by kernel_rfl) rfl (by decide) (fun _ _ _ hL => seqB_ready hL.1) (by kernel_rfl) (by kernel_rfl) (fun _ _ _ h => h) hSC7 (.inr ⟨by kernel_rfl, rfl⟩) ?_
                  simp only [Act.put]
                  try simp only [List.getElem_toArray, List.getElem_cons_succ, List.getElem_cons_zero, List.setIfInBounds_toArray, List.set_cons_succ, List.set_cons_zero]
                  refine HeadW.takeA 19 (v := undef) rfl (by kernel_rfl) rfl (by decide) (fun _ _ _ hL => seqB_ready hL.1) (by kernel_rfl) (by kernel_rfl) (fun _ _ _ h => h) hSC7 (.inr ⟨by kernel_rfl, rfl⟩) ?_
                  simp only [Act.put]
                  refine HeadW.takeA 20 (v := undef) rfl (by kernel_rfl) rfl (by decide) (fun _ _ _ hL => seqB_ready hL.1) (by kernel_rfl) (by kernel_rfl) (fun _ _ _ h => h) hSC7 (.inr ⟨by kernel_rfl, rfl⟩) ?_
                  simp only [Act.put]
                  refine HeadW.takeA 21 (v := undef) rfl (by kernel_rfl) rfl (by decide) (fun _ _ _ hL => seqB_ready hL.1) (by kernel_rfl) (by kernel_rfl) (fun _ _ _ h => h) hSC7 (.inr ⟨by kernel_rfl, rfl⟩) ?_
                  simp only [Act.put]
                  try simp only [List.getElem_toArray, List.getElem_cons_succ, List.getElem_cons_zero, List.setIfInBounds_toArray, List.set_cons_succ, List.set_cons_zero]
                  refine HeadW.takeA 22 (v := undef) rfl (by kernel_rfl) rfl (by decide) (fun _ _ _ hL => seqB_ready hL.1) (by kernel_rfl) (by kernel_rfl) (fun _ _ _ h => h) hSC7 (.inr ⟨by kernel_rfl, rfl⟩) ?_
                  simp only [Act.put]
                  refine HeadW.takeA 23 (v := undef) rfl (by kernel_rfl) rfl (by decide) (fun _ _ _ hL => seqB_ready hL.1) (by kernel_rfl) (by kernel_rfl) (fun _ _ _ h => h) hSC7 (.inr ⟨by kernel_rfl, rfl⟩) ?_
                  simp only [Act.put]
                  refine HeadW.takeA 24 (v := undef) rfl (by kernel_rfl) rfl (by decide) (fun _ _ _ hL => seqB_ready hL.1) (by kernel_rfl) (by kernel_rfl) (fun _ _ _ h => h) hSC7 (.inr ⟨by kernel_rfl, rfl⟩) ?_
                  simp only [Act.put]
                  try simp only [List.getElem_toArray, List.getElem_cons_succ, List.getElem_cons_zero, List.setIfInBounds_toArray, List.set_cons_succ, List.set_cons_zero]
                  refine HeadW.takeA 25 (v := undef) rfl (by kernel_rfl) rfl (by decide) (fun _ _ _ hL => seqB_ready hL.1) (by kernel_rfl) (by kernel_rfl) (fun _ _ _ h => h) hSC7 (.inr ⟨by kernel_rfl, rfl⟩) ?_
                  simp only [Act.put]
                  refine HeadW.takeA 26 (v := undef) rfl (by kernel_rfl) rfl (by decide) (fun _ _ _ hL => seqB_ready hL.1) (by kernel_rfl) (by kernel_rfl) (fun _ _ _ h => h) hSC7 (.inr ⟨by kernel_rfl, rfl⟩) ?_
                  simp only [Act.put]
                  refine HeadW.takeA 27 (v := undef) rfl (by kernel_rfl) rfl (by decide) (fun _ _ _ hL => seqB_ready hL.1) (by kernel_rfl) (by kernel_rfl) (fun _ _ _ h => h) hSC7 (.inr ⟨by kernel_rfl, rfl⟩) ?_
                  simp only [Act.put]
                  try simp only [List.getElem_toArray, List.getElem_cons_succ, List.getElem_cons_zero, List.setIfInBounds_toArray, List.set_cons_succ, List.set_cons_zero]
                  refine HeadW.takeA 28 (v := undef) rfl (by kernel_rfl) rfl (by decide) (fun _ _ _ hL => seqB_ready hL.1) (by kernel_rfl) (by kernel_rfl) (fun _ _ _ h => h) hSC7 (.inr ⟨by kernel_rfl, rfl⟩) ?_
                  simp only [Act.put]
                  refine HeadW.takeA 29 (v := undef) rfl (by kernel_rfl) rfl (by decide) (fun _ _ _ hL => seqB_ready hL.1) (by kernel_rfl) (by kernel_rfl) (fun _ _ _ h => h) hSC7 (.inr ⟨by kernel_rfl, rfl⟩) ?_
                  simp only [Act.put]
                  refine HeadW.takeA 30 (v := undef) rfl (by kernel_rfl) rfl (by decide) (fun _ _ _ hL => seqB_ready hL.1) (by kernel_rfl) (by kernel_rfl) (fun _ _ _ h => h) hSC7 (.inr ⟨by kernel_rfl, rfl⟩) ?_
                  simp only [Act.put]
                  try simp only [List.getElem_toArray, List.getElem_cons_succ, List.getElem_cons_zero, List.setIfInBounds_toArray, List.set_cons_succ, List.set_cons_zero]
                  refine HeadW.takeA 31 (v := undef) rfl (by kernel_rfl) rfl (by decide) (fun _ _ _ hL => seqB_ready hL.1) (by kernel_rfl) (by kernel_rfl) (fun _ _ _ h => h) hSC7 (.inr ⟨by kernel_rfl, rfl⟩) ?_
                  simp only [Act.put]
                  refine HeadW.takeA 32 (v := .bool true) rfl (by kernel_rfl) rfl (by decide) (fun _ _ _ hL => seqB_ready hL.1) (by kernel_rfl) (by kernel_rfl) (fun _ _ _ h => h) hSC7 (.inl ⟨by kernel_rfl, by intro w hSw; rw [HSd.out] at hSw; obtain ⟨⟨e0, l0⟩, ⟨e1, e2, e3, l1⟩, ⟨e4, e5, l2⟩, ⟨e6, l3⟩, ⟨e7, l4⟩⟩ := hSw; go_simp⟩) ?_
                  simp only [Act.put]
                  try simp only [List.getElem_toArray, List.getElem_cons_succ, List.getElem_cons_zero, List.setIfInBounds_toArray, List.set_cons_succ, List.set_cons_zero]
                  refine fun hInv => ⟨by kernel_rfl, ?_⟩
                  clear hInv
                  simp only [List.drop_succ_cons, List.drop_zero]
                  clear HSC HSd hSC7
                  clear SC
                  go_wp2_with fail
                  go_meet
                  case rel => exact ⟨true, rfl, Lib.hid ⟨fun _ => (.inl (by rw [← HW.out]; exact hWx)), fun _ => rfl⟩, HB67.out⟩
              · by_cases hbn : 256 < bh
                · as_aux_lemma =>
                    go_upto_region 20 with (fail)
                    obtain ⟨SC, hSCd⟩ : ∃ S : World → Prop, S = fun w' => (w'.cell? ⟨gH, v, none⟩ = some (.int .i64 x) ∧ gH < w'.heap.size) ∧ (w'.cell? ⟨gx, 0, none⟩ = some (.int .i64 p.mem) ∧ w'.cell? ⟨gx, 1, none⟩ = some (.slice p.AD p.data.length p.cD) ∧ w'.cell? ⟨gx, 2, none⟩ = some (.slice (some ⟨b0, off0, none⟩) p.fs.length p.cF) ∧ gx < w'.heap.size) ∧ (w'.cell? ⟨gP, 0, none⟩ = some (.int .i64 (f : Int)) ∧ w'.cell? ⟨gP, 1, none⟩ = some (.int .i64 (v : Int)) ∧ gP < w'.heap.size) ∧ (w'.cell? ⟨b1, off1 + v * 2, none⟩ = some (.int .i64 op) ∧ b1 < w'.heap.size) ∧ (w'.cell? ⟨b0, off0 + f * 4 + 2, none⟩ = some (.int .i64 rs) ∧ b0 < w'.heap.size) := ⟨_, rfl⟩
                    have hSC : SC w6.drew := by rw [hSCd]; exact ⟨⟨hx6, hl6⟩, ⟨x06, x16, x26, xl6⟩, ⟨s06, s16, sl6⟩, ⟨o06, ol6⟩, ⟨rs6, rl6⟩⟩
                    have HSC := Lib.hid (show SC w6.drew from hSC)
                    have HSd := Lib.hid hSCd
                    clear hSC hSCd
                    refine region_heldT 33 SC (by kernel_rfl) (by decide) ?_
                    refine HeadW.takeA 0 (v := .agg #[.int .i64 p.mem, .slice p.AD p.data.length p.cD, .slice (some ⟨b0, off0, none⟩) p.fs.length p.cF]) rfl (by kernel_rfl) rfl (by decide) (fun _ _ _ hL => seqB_ready hL.1) (by kernel_rfl) (by kernel_rfl) (fun _ _ _ h => h) HSC.out (.inl ⟨by kernel_rfl, by intro w hSw; rw [HSd.out] at hSw; obtain ⟨⟨e0, l0⟩, ⟨e1, e2, e3, l1⟩, ⟨e4, e5, l2⟩, ⟨e6, l3⟩, ⟨e7, l4⟩⟩ := hSw; go_simp⟩) ?_
                    simp only [Act.put, List.setIfInBounds_toArray]
                    refine HeadW.takeA 1 (v := .agg #[.int .i64 (f : Int), .int .i64 (v : Int)]) rfl (by kernel_rfl) rfl (by decide) (fun _ _ _ hL => seqB_ready hL.1) (by kernel_rfl) (by kernel_rfl) (fun _ _ _ h => h) HSC.out (.inl ⟨by kernel_rfl, by intro w hSw; rw [HSd.out] at hSw; obtain ⟨⟨e0, l0⟩, ⟨e1, e2, e3, l1⟩, ⟨e4, e5, l2⟩, ⟨e6, l3⟩, ⟨e7, l4⟩⟩ := hSw; go_simp⟩) ?_
                    simp only [Act.put]
                    refine HeadW.takeA 3 (v := .slice (some ⟨gH, 0, none⟩) N N) rfl (by kernel_rfl) rfl (by decide) (fun _ _ _ hL => seqB_ready hL.1) (by kernel_rfl) (by kernel_rfl) (fun _ _ _ h => h) HSC.out (.inl ⟨by kernel_rfl, by intro w hSw; rw [HSd.out] at hSw; obtain ⟨⟨e0, l0⟩, ⟨e1, e2, e3, l1⟩, ⟨e4, e5, l2⟩, ⟨e6, l3⟩, ⟨e7, l4⟩⟩ := hSw; go_simp⟩) ?_
                    simp only [Act.put]
                    refine HeadW.takeA 4 (v := .int .i64 (v : Int)) rfl (by kernel_rfl) rfl (by decide) (fun _ _ _ hL => seqB_ready hL.1) (by kernel_rfl) (by kernel_rfl) (fun _ _ _ h => h) HSC.out (.inl ⟨by kernel_rfl, by intro w hSw; rw [HSd.out] at hSw; obtain ⟨⟨e0, l0⟩, ⟨e1, e2, e3, l1⟩, ⟨e4, e5, l2⟩, ⟨e6, l3⟩, ⟨e7, l4⟩⟩ := hSw; go_simp⟩) ?_
                    simp only [Act.put]
                    refine HeadW.takeA 5 (v := .pointer (some ⟨gH, v, none⟩)) rfl (by kernel_rfl) rfl (by decide) (fun _ _ _ hL => seqB_ready hL.1) (by kernel_rfl) (by kernel_rfl) (fun _ _ _ h => h) HSC.out (.inl ⟨by kernel_rfl, by intro w hSw; rw [HSd.out] at hSw; obtain ⟨⟨e0, l0⟩, ⟨e1, e2, e3, l1⟩, ⟨e4, e5, l2⟩, ⟨e6, l3⟩, ⟨e7, l4⟩⟩ := hSw; go_simp⟩) ?_
                    simp only [Act.put]
                    refine HeadW.takeA 6 (v := .int .i64 x) rfl (by kernel_rfl) rfl (by decide) (fun _ _ _ hL => seqB_ready hL.1) (by kernel_rfl) (by kernel_rfl) (fun _ _ _ h => h) HSC.out (.inl ⟨by kernel_rfl, by intro w hSw; rw [HSd.out] at hSw; obtain ⟨⟨e0, l0⟩, ⟨e1, e2, e3, l1⟩, ⟨e4, e5, l2⟩, ⟨e6, l3⟩, ⟨e7, l4⟩⟩ := hSw; go_simp⟩) ?_
                    simp only [Act.put]
                    refine headW_one 2 rfl (by decide) (by kernel_rfl) (by kernel_rfl) fun K hK => ?_
                    go_simp
                    refine HWn.out.mono ?_
                    rintro e w7 ⟨rfl, hb7⟩
                    have hb67 : Below w6.heap.size w6 w7 := (Below.refl _ w6).drew.trans hb7
                    have HB67 := Lib.hid hb67
                    have hSC7 : SC w7 := by
                      have h := HSC.out
                      rw [HSd.out] at h ⊢
                      obtain ⟨⟨e0, l0⟩, ⟨e1, e2, e3, l1⟩, ⟨e4, e5, l2⟩, ⟨e6, l3⟩, ⟨e7, l4⟩⟩ := h
                      obtain ⟨hc, -⟩ := bcell hb67
                      have hz := hb67.size
                      exact ⟨⟨(hc _ _ l0).trans e0, by omega⟩, ⟨(hc _ _ l1).trans e1, (hc _ _ l1).trans e2, (hc _ _ l1).trans e3, by omega⟩, ⟨(hc _ _ l2).trans e4, (hc _ _ l2).trans e5, by omega⟩, ⟨(hc _ _ l3).trans e6, by omega⟩, ⟨(hc _ _ l4).trans e7, by omega⟩⟩
                    refine hK.out _ _ hSC7 (fun hHeld => ?_)
                    clear hK K hHeld hb7 hb67
                    try simp only [List.getElem_toArray, List.getElem_cons_succ, List.getElem_cons_zero, List.setIfInBounds_toArray, List.set_cons_succ, List.set_cons_zero]
                    refine HeadW.takeA 7 (v := .bool false) rfl (by kernel_rfl) rfl (by decide) (fun _ _ _ hL => seqB_ready hL.1) (by kernel_rfl) (by kernel_rfl) (fun _ _ _ h => h) hSC7 (.inl ⟨by kernel_rfl, by intro w hSw; rw [HSd.out] at hSw; obtain ⟨⟨e0, l0⟩, ⟨e1, e2, e3, l1⟩, ⟨e4, e5, l2⟩, ⟨e6, l3⟩, ⟨e7, l4⟩⟩ := hSw; go_simp⟩) ?_
                    simp only [Act.put]
                    refine HeadW.takeA 8 (v := .bool false) rfl (by kernel_rfl) rfl (by decide) (fun _ _ _ hL => seqB_ready hL.1) (by kernel_rfl) (by kernel_rfl) (fun _ _ _ h => h) hSC7 (.inl ⟨by kernel_rfl, by intro w hSw; rw [HSd.out] at hSw; obtain ⟨⟨e0, l0⟩, ⟨e1, e2, e3, l1⟩, ⟨e4, e5, l2⟩, ⟨e6, l3⟩, ⟨e7, l4⟩⟩ := hSw; go_simp⟩) ?_
                    simp only [Act.put]
                    refine HeadW.takeA 9 (v := .int .i64 bh) rfl (by kernel_rfl) rfl (by decide) (fun _ _ _ hL => seqB_ready hL.1) (by kernel_rfl) (by kernel_rfl) (fun _ _ _ h => h) hSC7 (.inl ⟨by kernel_rfl, by intro w hSw; rw [HSd.out] at hSw; obtain ⟨⟨e0, l0⟩, ⟨e1, e2, e3, l1⟩, ⟨e4, e5, l2⟩, ⟨e6, l3⟩, ⟨e7, l4⟩⟩ := hSw; go_simp⟩) ?_
                    simp only [Act.put]
                    try simp only [List.getElem_toArray, List.getElem_cons_succ, List.getElem_cons_zero, List.setIfInBounds_toArray, List.set_cons_succ, List.set_cons_zero]
                    refine HeadW.takeA 10 (v := .bool true) rfl (by kernel_rfl) rfl (by decide) (fun _ _ _ hL => seqB_ready hL.1) (by kernel_rfl) (by kernel_rfl) (fun _ _ _ h => h) hSC7 (.inl ⟨by kernel_rfl, by intro w hSw; rw [HSd.out] at hSw; obtain ⟨⟨e0, l0⟩, ⟨e1, e2, e3, l1⟩, ⟨e4, e5, l2⟩, ⟨e6, l3⟩, ⟨e7, l4⟩⟩ := hSw; go_simp⟩) ?_
                    simp only [Act.put]
                    refine HeadW.takeA 11 (v := .bool true) rfl (by kernel_rfl) rfl (by decide) (fun _ _ _ hL => seqB_ready hL.1) (by kernel_rfl) (by kernel_rfl) (fun _ _ _ h => h) hSC7 (.inl ⟨by kernel_rfl, by intro w hSw; rw [HSd.out] at hSw; obtain ⟨⟨e0, l0⟩, ⟨e1, e2, e3, l1⟩, ⟨e4, e5, l2⟩, ⟨e6, l3⟩, ⟨e7, l4⟩⟩ := hSw; go_simp⟩) ?_
                    simp only [Act.put]
                    refine HeadW.takeA 12 (v := .bool true) rfl (by kernel_rfl) rfl (by decide) (fun _ _ _ hL => seqB_ready hL.1) (by kernel_rfl) (by kernel_rfl) (fun _ _ _ h => h) hSC7 (.inl ⟨by kernel_rfl, by intro w hSw; rw [HSd.out] at hSw; obtain ⟨⟨e0, l0⟩, ⟨e1, e2, e3, l1⟩, ⟨e4, e5, l2⟩, ⟨e6, l3⟩, ⟨e7, l4⟩⟩ := hSw; go_simp⟩) ?_
                    simp only [Act.put]
                    try simp only [List.getElem_toArray, List.getElem_cons_succ, List.getElem_cons_zero, List.setIfInBounds_toArray, List.set_cons_succ, List.set_cons_zero]
                    refine HeadW.takeA 13 (v := undef) rfl (by kernel_rfl) rfl (by decide) (fun _ _ _ hL => seqB_ready hL.1) (by kernel_rfl) (by kernel_rfl) (fun _ _ _ h => h) hSC7 (.inr ⟨by kernel_rfl, rfl⟩) ?_
                    simp only [Act.put]
                    refine HeadW.takeA 14 (v := undef) rfl (by kernel_rfl) rfl (by decide) (fun _ _ _ hL => seqB_ready hL.1) (by kernel_rfl) (by kernel_rfl) (fun _ _ _ h => h) hSC7 (.inr ⟨by kernel_rfl, rfl⟩) ?_
                    simp only [Act.put]
                    refine HeadW.takeA 15 (v := undef) rfl (by kernel_rfl) rfl (by decide) (fun _ _ _ hL => seqB_ready hL.1) (by kernel_rfl) (by kernel_rfl) (fun _ _ _ h => h) hSC7 (.inr ⟨by kernel_rfl, rfl⟩) ?_
                    simp only [Act.put]
                    try simp only [List.getElem_toArray, List.getElem_cons_succ, List.getElem_cons_zero, List.setIfInBounds_toArray, List.set_cons_succ, List.set_cons_zero]
                    refine HeadW.takeA 16 (v := undef) rfl (by kernel_rfl) rfl (by decide) (fun _ _ _ hL => seqB_ready hL.1) (by kernel_rfl) (by kernel_rfl) (fun _ _ _ h => h) hSC7 (.inr ⟨by kernel_rfl, rfl⟩) ?_
                    simp only [Act.put]
                    refine HeadW.takeA 17 (v := undef) rfl (by kernel_rfl) rfl (by decide) (fun _ _ _ hL => seqB_ready hL.1) (by kernel_rfl) (by kernel_rfl) (fun _ _ _ h => h) hSC7 (.inr ⟨by kernel_rfl, rfl⟩) ?_
                    simp only [Act.put]
                    refine HeadW.takeA 18 (v := undef) rfl (by kernel_rfl) rfl (by decide) (fun _ _ _ hL => seqB_ready hL.1) (by kernel_rfl) (by kernel_rfl) (fun _ _ _ h => h) hSC7 (.inr ⟨by kernel_rfl, rfl⟩) ?_
                    simp only [Act.put]
                    try simp only [List.getElem_toArray, List.getElem_cons_succ, List.getElem_cons_zero, List.setIfInBounds_toArray, List.set_cons_succ, List.set_cons_zero]
                    refine HeadW.takeA 19 (v := undef) rfl (by kernel_rfl) rfl (by decide) (fun _ _ _ hL => seqB_ready hL.1) (by kernel_rfl) (by kernel_rfl) (fun _ _ _ h => h) hSC7 (.inr ⟨by kernel_rfl, rfl⟩) ?_
                    simp only [Act.put]
                    refine HeadW.takeA 20 (v := undef) rfl (by kernel_rfl) rfl (by decide) (fun _ _ _ hL => seqB_ready hL.1) (by kernel_rfl) (by kernel_rfl) (fun _ _ _ h => h) hSC7 (.inr ⟨by kernel_rfl, rfl⟩) ?_
                    simp only [Act.put]
                    refine HeadW.takeA 21 (v := undef) rfl (by kernel_rfl) rfl (by decide) (fun _ _ _ hL => seqB_ready hL.1) (by kernel_rfl) (by kernel_rfl) (fun _ _ _ h => h) hSC7 (.inr ⟨by kernel_rfl, rfl⟩) ?_
                    simp only [Act.put]
                    try simp only [List.getElem_toArray, List.getElem_cons_succ, List.getElem_cons_zero, List.setIfInBounds_toArray, List.set_cons_succ, List.set_cons_zero]
                    refine HeadW.takeA 22 (v := undef) rfl (by kernel_rfl) rfl (by decide) (fun _ _ _ hL => seqB_ready hL.1) (by kernel_rfl) (by kernel_rfl) (fun _ _ _ h => h) hSC7 (.inr ⟨by kernel_rfl, rfl⟩) ?_
                    simp only [Act.put]
                    refine HeadW.takeA 23 (v := undef) rfl (by kernel_rfl) rfl (by decide) (fun _ _ _ hL => seqB_ready hL.1) (by kernel_rfl) (by kernel_rfl) (fun _ _ _ h => h) hSC7 (.inr ⟨by kernel_rfl, rfl⟩) ?_
                    simp only [Act.put]
                    refine HeadW.takeA 24 (v := undef) rfl (by kernel_rfl) rfl (by decide) (fun _ _ _ hL => seqB_ready hL.1) (by kernel_rfl) (by kernel_rfl) (fun _ _ _ h => h) hSC7 (.inr ⟨by kernel_rfl, rfl⟩) ?_
                    simp only [Act.put]
                    try simp only [List.getElem_toArray, List.getElem_cons_succ, List.getElem_cons_zero, List.setIfInBounds_toArray, List.set_cons_succ, List.set_cons_zero]
                    refine HeadW.takeA 25 (v := undef) rfl (by kernel_rfl) rfl (by decide) (fun _ _ _ hL => seqB_ready hL.1) (by kernel_rfl) (by kernel_rfl) (fun _ _ _ h => h) hSC7 (.inr ⟨by kernel_rfl, rfl⟩) ?_
                    simp only [Act.put]
                    refine HeadW.takeA 26 (v := undef) rfl (by kernel_rfl) rfl (by decide) (fun _ _ _ hL => seqB_ready hL.1) (by kernel_rfl) (by kernel_rfl) (fun _ _ _ h => h) hSC7 (.inr ⟨by kernel_rfl, rfl⟩) ?_
                    simp only [Act.put]
                    refine HeadW.takeA 27 (v := undef) rfl (by kernel_rfl) rfl (by decide) (fun _ _ _ hL => seqB_ready hL.1) (by kernel_rfl) (by kernel_rfl) (fun _ _ _ h => h) hSC7 (.inr ⟨by kernel_rfl, rfl⟩) ?_
                    simp only [Act.put]
                    try simp only [List.getElem_toArray, List.getElem_cons_succ, List.getElem_cons_zero, List.setIfInBounds_toArray, List.set_cons_succ, List.set_cons_zero]
                    refine HeadW.takeA 28 (v := undef) rfl (by kernel_rfl) rfl (by decide) (fun _ _ _ hL => seqB_ready hL.1) (by kernel_rfl) (by kernel_rfl) (fun _ _ _ h => h) hSC7 (.inr ⟨by kernel_rfl, rfl⟩) ?_
                    simp only [Act.put]
                    refine HeadW.takeA 29 (v := undef) rfl (by kernel_rfl) rfl (by decide) (fun _ _ _ hL => seqB_ready hL.1) (by kernel_rfl) (by kernel_rfl) (fun _ _ _ h => h) hSC7 (.inr ⟨by kernel_rfl, rfl⟩) ?_
                    simp only [Act.put]
                    refine HeadW.takeA 30 (v := undef) rfl (by kernel_rfl) rfl (by decide) (fun _ _ _ hL => seqB_ready hL.1) (by kernel_rfl) (by kernel_rfl) (fun _ _ _ h => h) hSC7 (.inr ⟨by kernel_rfl, rfl⟩) ?_
                    simp only [Act.put]
                    try simp only [List.getElem_toArray, List.getElem_cons_succ, List.getElem_cons_zero, List.setIfInBounds_toArray, List.set_cons_succ, List.set_cons_zero]
                    refine HeadW.takeA 31 (v := undef) rfl (by kernel_rfl) rfl (by decide) (fun _ _ _ hL => seqB_ready hL.1) (by kernel_rfl) (by kernel_rfl) (fun _ _ _ h => h) hSC7 (.inr ⟨by kernel_rfl, rfl⟩) ?_
                    simp only [Act.put]
                    refine HeadW.takeA 32 (v := .bool true) rfl (by kernel_rfl) rfl (by decide) (fun _ _ _ hL => seqB_ready hL.1) (by kernel_rfl) (by kernel_rfl) (fun _ _ _ h => h) hSC7 (.inl ⟨by kernel_rfl, by intro w hSw; rw [HSd.out] at hSw; obtain ⟨⟨e0, l0⟩, ⟨e1, e2, e3, l1⟩, ⟨e4, e5, l2⟩, ⟨e6, l3⟩, ⟨e7, l4⟩⟩ := hSw; go_simp⟩) ?_
                    simp only [Act.put]
                    try simp only [List.getElem_toArray, List.getElem_cons_succ, List.getElem_cons_zero, List.setIfInBounds_toArray, List.set_cons_succ, List.set_cons_zero]
                    refine fun hInv => ⟨by kernel_rfl, ?_⟩
                    clear hInv
                    simp only [List.drop_succ_cons, List.drop_zero]
                    clear HSC HSd hSC7
                    clear SC
                    go_wp2_with fail
                    go_meet
                    case rel => exact ⟨true, rfl, Lib.hid ⟨fun _ => (.inr (.inl (by rw [← Hbh.out]; exact hbn))), fun _ => rfl⟩, HB67.out⟩
                · by_cases h18 : op = 18
                  · subst h18
                    by_cases hxr : x = rs
                    · have HN := Lib.hid (show ¬ badT p.plain f v ⟨18, aa⟩ x from by
                        unfold badT
                        rw [← HW.out, ← Hbh.out, Hrs2.out]
                        rintro (h | h | ⟨-, h⟩)
                        · exact hWx h
                        · exact hbn h
                        · exact h hxr)
                      subst hxr
                      as_aux_lemma =>
                        go_upto_region 20 with (fail)
                        obtain ⟨SC, hSCd⟩ : ∃ S : World → Prop, S = fun w' => (w'.cell? ⟨gH, v, none⟩ = some (.int .i64 x) ∧ gH < w'.heap.size) ∧ (w'.cell? ⟨gx, 0, none⟩ = some (.int .i64 p.mem) ∧ w'.cell? ⟨gx, 1, none⟩ = some (.slice p.AD p.data.length p.cD) ∧ w'.cell? ⟨gx, 2, none⟩ = some (.slice (some ⟨b0, off0, none⟩) p.fs.length p.cF) ∧ gx < w'.heap.size) ∧ (w'.cell? ⟨gP, 0, none⟩ = some (.int .i64 (f : Int)) ∧ w'.cell? ⟨gP, 1, none⟩ = some (.int .i64 (v : Int)) ∧ gP < w'.heap.size) ∧ (w'.cell? ⟨b1, off1 + v * 2, none⟩ = some (.int .i64 18) ∧ b1 < w'.heap.size) ∧ (w'.cell? ⟨b0, off0 + f * 4 + 2, none⟩ = some (.int .i64 x) ∧ b0 < w'.heap.size) := ⟨_, rfl⟩
                        have hSC : SC w6.drew := by rw [hSCd]; exact ⟨⟨hx6, hl6⟩, ⟨x06, x16, x26, xl6⟩, ⟨s06, s16, sl6⟩, ⟨o06, ol6⟩, ⟨rs6, rl6⟩⟩
                        have HSC := Lib.hid (show SC w6.drew from hSC)
                        have HSd := Lib.hid hSCd
                        clear hSC hSCd
                        refine region_heldT 33 SC (by kernel_rfl) (by decide) ?_
                        refine HeadW.takeA 0 (v := .agg #[.int .i64 p.mem, .slice p.AD p.data.length p.cD, .slice (some ⟨b0, off0, none⟩) p.fs.length p.cF]) rfl (by kernel_rfl) rfl (by decide) (fun _ _ _ hL => seqB_ready hL.1) (by kernel_rfl) (by kernel_rfl) (fun _ _ _ h => h) HSC.out (.inl ⟨by kernel_rfl, by intro w hSw; rw [HSd.out] at hSw; obtain ⟨⟨e0, l0⟩, ⟨e1, e2, e3, l1⟩, ⟨e4, e5, l2⟩, ⟨e6, l3⟩, ⟨e7, l4⟩⟩ := hSw; go_simp⟩) ?_
                        simp only [Act.put, List.setIfInBounds_toArray]
                        refine HeadW.takeA 1 (v := .agg #[.int .i64 (f : Int), .int .i64 (v : Int)]) rfl (by kernel_rfl) rfl (by decide) (fun _ _ _ hL => seqB_ready hL.1) (by kernel_rfl) (by kernel_rfl) (fun _ _ _ h => h) HSC.out (.inl ⟨by kernel_rfl, by intro w hSw; rw [HSd.out] at hSw; obtain ⟨⟨e0, l0⟩, ⟨e1, e2, e3, l1⟩, ⟨e4, e5, l2⟩, ⟨e6, l3⟩, ⟨e7, l4⟩⟩ := hSw; go_simp⟩) ?_
                        simp only [Act.put]
                        refine HeadW.takeA 3 (v := .slice (some ⟨gH, 0, none⟩) N N) rfl (by kernel_rfl) rfl (by decide) (fun _ _ _ hL => seqB_ready hL.1) (by kernel_rfl) (by kernel_rfl) (fun _ _ _ h => h) HSC.out (.inl ⟨by kernel_rfl, by intro w hSw; rw [HSd.out] at hSw; obtain ⟨⟨e0, l0⟩, ⟨e1, e2, e3, l1⟩, ⟨e4, e5, l2⟩, ⟨e6, l3⟩, ⟨e7, l4⟩⟩ := hSw; go_simp⟩) ?_
                        simp only [Act.put]
                        refine HeadW.takeA 4 (v := .int .i64 (v : Int)) rfl (by kernel_rfl) rfl (by decide) (fun _ _ _ hL => seqB_ready hL.1) (by kernel_rfl) (by kernel_rfl) (fun _ _ _ h => h) HSC.out (.inl ⟨by kernel_rfl, by intro w hSw; rw [HSd.out] at hSw; obtain ⟨⟨e0, l0⟩, ⟨e1, e2, e3, l1⟩, ⟨e4, e5, l2⟩, ⟨e6, l3⟩, ⟨e7, l4⟩⟩ := hSw; go_simp⟩) ?_
                        simp only [Act.put]
                        refine HeadW.takeA 5 (v := .pointer (some ⟨gH, v, none⟩)) rfl (by kernel_rfl) rfl (by decide) (fun _ _ _ hL => seqB_ready hL.1) (by kernel_rfl) (by kernel_rfl) (fun _ _ _ h => h) HSC.out (.inl ⟨by kernel_rfl, by intro w hSw; rw [HSd.out] at hSw; obtain ⟨⟨e0, l0⟩, ⟨e1, e2, e3, l1⟩, ⟨e4, e5, l2⟩, ⟨e6, l3⟩, ⟨e7, l4⟩⟩ := hSw; go_simp⟩) ?_
                        simp only [Act.put]
                        refine HeadW.takeA 6 (v := .int .i64 x) rfl (by kernel_rfl) rfl (by decide) (fun _ _ _ hL => seqB_ready hL.1) (by kernel_rfl) (by kernel_rfl) (fun _ _ _ h => h) HSC.out (.inl ⟨by kernel_rfl, by intro w hSw; rw [HSd.out] at hSw; obtain ⟨⟨e0, l0⟩, ⟨e1, e2, e3, l1⟩, ⟨e4, e5, l2⟩, ⟨e6, l3⟩, ⟨e7, l4⟩⟩ := hSw; go_simp⟩) ?_
                        simp only [Act.put]
                        refine headW_one 2 rfl (by decide) (by kernel_rfl) (by kernel_rfl) fun K hK => ?_
                        go_simp
                        refine HWn.out.mono ?_
                        rintro e w7 ⟨rfl, hb7⟩
                        have hb67 : Below w6.heap.size w6 w7 := (Below.refl _ w6).drew.trans hb7
                        have HB67 := Lib.hid hb67
                        have hSC7 : SC w7 := by
                          have h := HSC.out
                          rw [HSd.out] at h ⊢
                          obtain ⟨⟨e0, l0⟩, ⟨e1, e2, e3, l1⟩, ⟨e4, e5, l2⟩, ⟨e6, l3⟩, ⟨e7, l4⟩⟩ := h
                          obtain ⟨hc, -⟩ := bcell hb67
                          have hz := hb67.size
                          exact ⟨⟨(hc _ _ l0).trans e0, by omega⟩, ⟨(hc _ _ l1).trans e1, (hc _ _ l1).trans e2, (hc _ _ l1).trans e3, by omega⟩, ⟨(hc _ _ l2).trans e4, (hc _ _ l2).trans e5, by omega⟩, ⟨(hc _ _ l3).trans e6, by omega⟩, ⟨(hc _ _ l4).trans e7, by omega⟩⟩
                        refine hK.out _ _ hSC7 (fun hHeld => ?_)
                        clear hK K hHeld hb7 hb67
                        try simp only [List.getElem_toArray, List.getElem_cons_succ, List.getElem_cons_zero, List.setIfInBounds_toArray, List.set_cons_succ, List.set_cons_zero]
                        refine HeadW.takeA 7 (v := .bool false) rfl (by kernel_rfl) rfl (by decide) (fun _ _ _ hL => seqB_ready hL.1) (by kernel_rfl) (by kernel_rfl) (fun _ _ _ h => h) hSC7 (.inl ⟨by kernel_rfl, by intro w hSw; rw [HSd.out] at hSw; obtain ⟨⟨e0, l0⟩, ⟨e1, e2, e3, l1⟩, ⟨e4, e5, l2⟩, ⟨e6, l3⟩, ⟨e7, l4⟩⟩ := hSw; go_simp⟩) ?_
                        simp only [Act.put]
                        refine HeadW.takeA 8 (v := .bool false) rfl (by kernel_rfl) rfl (by decide) (fun _ _ _ hL => seqB_ready hL.1) (by kernel_rfl) (by kernel_rfl) (fun _ _ _ h => h) hSC7 (.inl ⟨by kernel_rfl, by intro w hSw; rw [HSd.out] at hSw; obtain ⟨⟨e0, l0⟩, ⟨e1, e2, e3, l1⟩, ⟨e4, e5, l2⟩, ⟨e6, l3⟩, ⟨e7, l4⟩⟩ := hSw; go_simp⟩) ?_
                        simp only [Act.put]
                        refine HeadW.takeA 9 (v := .int .i64 bh) rfl (by kernel_rfl) rfl (by decide) (fun _ _ _ hL => seqB_ready hL.1) (by kernel_rfl) (by kernel_rfl) (fun _ _ _ h => h) hSC7 (.inl ⟨by kernel_rfl, by intro w hSw; rw [HSd.out] at hSw; obtain ⟨⟨e0, l0⟩, ⟨e1, e2, e3, l1⟩, ⟨e4, e5, l2⟩, ⟨e6, l3⟩, ⟨e7, l4⟩⟩ := hSw; go_simp⟩) ?_
                        simp only [Act.put]
                        try simp only [List.getElem_toArray, List.getElem_cons_succ, List.getElem_cons_zero, List.setIfInBounds_toArray, List.set_cons_succ, List.set_cons_zero]
                        refine HeadW.takeA 10 (v := .bool false) rfl (by kernel_rfl) rfl (by decide) (fun _ _ _ hL => seqB_ready hL.1) (by kernel_rfl) (by kernel_rfl) (fun _ _ _ h => h) hSC7 (.inl ⟨by kernel_rfl, by intro w hSw; rw [HSd.out] at hSw; obtain ⟨⟨e0, l0⟩, ⟨e1, e2, e3, l1⟩, ⟨e4, e5, l2⟩, ⟨e6, l3⟩, ⟨e7, l4⟩⟩ := hSw; go_simp⟩) ?_
                        simp only [Act.put]
                        refine HeadW.takeA 11 (v := .bool false) rfl (by kernel_rfl) rfl (by decide) (fun _ _ _ hL => seqB_ready hL.1) (by kernel_rfl) (by kernel_rfl) (fun _ _ _ h => h) hSC7 (.inl ⟨by kernel_rfl, by intro w hSw; rw [HSd.out] at hSw; obtain ⟨⟨e0, l0⟩, ⟨e1, e2, e3, l1⟩, ⟨e4, e5, l2⟩, ⟨e6, l3⟩, ⟨e7, l4⟩⟩ := hSw; go_simp⟩) ?_
                        simp only [Act.put]
                        refine HeadW.takeA 12 (v := .bool false) rfl (by kernel_rfl) rfl (by decide) (fun _ _ _ hL => seqB_ready hL.1) (by kernel_rfl) (by kernel_rfl) (fun _ _ _ h => h) hSC7 (.inl ⟨by kernel_rfl, by intro w hSw; rw [HSd.out] at hSw; obtain ⟨⟨e0, l0⟩, ⟨e1, e2, e3, l1⟩, ⟨e4, e5, l2⟩, ⟨e6, l3⟩, ⟨e7, l4⟩⟩ := hSw; go_simp⟩) ?_
                        simp only [Act.put]
                        try simp only [List.getElem_toArray, List.getElem_cons_succ, List.getElem_cons_zero, List.setIfInBounds_toArray, List.set_cons_succ, List.set_cons_zero]
                        refine HeadW.takeA 13 (v := .slice (some ⟨b1, off1, none⟩) N g.c) rfl (by kernel_rfl) rfl (by decide) (fun _ _ _ hL => seqB_ready hL.1) (by kernel_rfl) (by kernel_rfl) (fun _ _ _ h => h) hSC7 (.inl ⟨by kernel_rfl, by intro w hSw; rw [HSd.out] at hSw; obtain ⟨⟨e0, l0⟩, ⟨e1, e2, e3, l1⟩, ⟨e4, e5, l2⟩, ⟨e6, l3⟩, ⟨e7, l4⟩⟩ := hSw; go_simp⟩) ?_
                        simp only [Act.put]
                        refine HeadW.takeA 14 (v := .int .i64 (v : Int)) rfl (by kernel_rfl) rfl (by decide) (fun _ _ _ hL => seqB_ready hL.1) (by kernel_rfl) (by kernel_rfl) (fun _ _ _ h => h) hSC7 (.inl ⟨by kernel_rfl, by intro w hSw; rw [HSd.out] at hSw; obtain ⟨⟨e0, l0⟩, ⟨e1, e2, e3, l1⟩, ⟨e4, e5, l2⟩, ⟨e6, l3⟩, ⟨e7, l4⟩⟩ := hSw; go_simp⟩) ?_
                        simp only [Act.put]
                        refine HeadW.takeA 15 (v := .pointer (some ⟨b1, off1 + v * 2, none⟩)) rfl (by kernel_rfl) rfl (by decide) (fun _ _ _ hL => seqB_ready hL.1) (by kernel_rfl) (by kernel_rfl) (fun _ _ _ h => h) hSC7 (.inl ⟨by kernel_rfl, by intro w hSw; rw [HSd.out] at hSw; obtain ⟨⟨e0, l0⟩, ⟨e1, e2, e3, l1⟩, ⟨e4, e5, l2⟩, ⟨e6, l3⟩, ⟨e7, l4⟩⟩ := hSw; go_simp⟩) ?_
                        simp only [Act.put]
                        try simp only [List.getElem_toArray, List.getElem_cons_succ, List.getElem_cons_zero, List.setIfInBounds_toArray, List.set_cons_succ, List.set_cons_zero]
                        refine HeadW.takeA 16 (v := .pointer (some ⟨b1, off1 + v * 2, none⟩)) rfl (by kernel_rfl) rfl (by decide) (fun _ _ _ hL => seqB_ready hL.1) (by kernel_rfl) (by kernel_rfl) (fun _ _ _ h => h) hSC7 (.inl ⟨by kernel_rfl, by intro w hSw; rw [HSd.out] at hSw; obtain ⟨⟨e0, l0⟩, ⟨e1, e2, e3, l1⟩, ⟨e4, e5, l2⟩, ⟨e6, l3⟩, ⟨e7, l4⟩⟩ := hSw; go_simp⟩) ?_
                        simp only [Act.put]
                        refine HeadW.takeA 17 (v := .int .i64 18) rfl (by kernel_rfl) rfl (by decide) (fun _ _ _ hL => seqB_ready hL.1) (by kernel_rfl) (by kernel_rfl) (fun _ _ _ h => h) hSC7 (.inl ⟨by kernel_rfl, by intro w hSw; rw [HSd.out] at hSw; obtain ⟨⟨e0, l0⟩, ⟨e1, e2, e3, l1⟩, ⟨e4, e5, l2⟩, ⟨e6, l3⟩, ⟨e7, l4⟩⟩ := hSw; go_simp⟩) ?_
                        simp only [Act.put]
                        refine HeadW.takeA 18 (v := .bool true) rfl (by kernel_rfl) rfl (by decide) (fun _ _ _ hL => seqB_ready hL.1) (by kernel_rfl) (by kernel_rfl) (fun _ _ _ h => h) hSC7 (.inl ⟨by kernel_rfl, by intro w hSw; rw [HSd.out] at hSw; obtain ⟨⟨e0, l0⟩, ⟨e1, e2, e3, l1⟩, ⟨e4, e5, l2⟩, ⟨e6, l3⟩, ⟨e7, l4⟩⟩ := hSw; go_simp⟩) ?_
                        simp only [Act.put]
                        try simp only [List.getElem_toArray, List.getElem_cons_succ, List.getElem_cons_zero, List.setIfInBounds_toArray, List.set_cons_succ, List.set_cons_zero]
                        refine HeadW.takeA 19 (v := .bool true) rfl (by kernel_rfl) rfl (by decide) (fun _ _ _ hL => seqB_ready hL.1) (by kernel_rfl) (by kernel_rfl) (fun _ _ _ h => h) hSC7 (.inl ⟨by kernel_rfl, by intro w hSw; rw [HSd.out] at hSw; obtain ⟨⟨e0, l0⟩, ⟨e1, e2, e3, l1⟩, ⟨e4, e5, l2⟩, ⟨e6, l3⟩, ⟨e7, l4⟩⟩ := hSw; go_simp⟩) ?_
                        simp only [Act.put]
                        refine HeadW.takeA 20 (v := .slice (some ⟨gH, 0, none⟩) N N) rfl (by kernel_rfl) rfl (by decide) (fun _ _ _ hL => seqB_ready hL.1) (by kernel_rfl) (by kernel_rfl) (fun _ _ _ h => h) hSC7 (.inl ⟨by kernel_rfl, by intro w hSw; rw [HSd.out] at hSw; obtain ⟨⟨e0, l0⟩, ⟨e1, e2, e3, l1⟩, ⟨e4, e5, l2⟩, ⟨e6, l3⟩, ⟨e7, l4⟩⟩ := hSw; go_simp⟩) ?_
                        simp only [Act.put]
                        refine HeadW.takeA 21 (v := .int .i64 (v : Int)) rfl (by kernel_rfl) rfl (by decide) (fun _ _ _ hL => seqB_ready hL.1) (by kernel_rfl) (by kernel_rfl) (fun _ _ _ h => h) hSC7 (.inl ⟨by kernel_rfl, by intro w hSw; rw [HSd.out] at hSw; obtain ⟨⟨e0, l0⟩, ⟨e1, e2, e3, l1⟩, ⟨e4, e5, l2⟩, ⟨e6, l3⟩, ⟨e7, l4⟩⟩ := hSw; go_simp⟩) ?_
                        simp only [Act.put]
                        try simp only [List.getElem_toArray, List.getElem_cons_succ, List.getElem_cons_zero, List.setIfInBounds_toArray, List.set_cons_succ, List.set_cons_zero]
                        refine HeadW.takeA 22 (v := .pointer (some ⟨gH, v, none⟩)) rfl (by kernel_rfl) rfl (by decide) (fun _ _ _ hL => seqB_ready hL.1) (by kernel_rfl) (by kernel_rfl) (fun _ _ _ h => h) hSC7 (.inl ⟨by kernel_rfl, by intro w hSw; rw [HSd.out] at hSw; obtain ⟨⟨e0, l0⟩, ⟨e1, e2, e3, l1⟩, ⟨e4, e5, l2⟩, ⟨e6, l3⟩, ⟨e7, l4⟩⟩ := hSw; go_simp⟩) ?_
                        simp only [Act.put]
                        refine HeadW.takeA 23 (v := .int .i64 x) rfl (by kernel_rfl) rfl (by decide) (fun _ _ _ hL => seqB_ready hL.1) (by kernel_rfl) (by kernel_rfl) (fun _ _ _ h => h) hSC7 (.inl ⟨by kernel_rfl, by intro w hSw; rw [HSd.out] at hSw; obtain ⟨⟨e0, l0⟩, ⟨e1, e2, e3, l1⟩, ⟨e4, e5, l2⟩, ⟨e6, l3⟩, ⟨e7, l4⟩⟩ := hSw; go_simp⟩) ?_
                        simp only [Act.put]
                        refine HeadW.takeA 24 (v := .pointer (some ⟨gx, 2, none⟩)) rfl (by kernel_rfl) rfl (by decide) (fun _ _ _ hL => seqB_ready hL.1) (by kernel_rfl) (by kernel_rfl) (fun _ _ _ h => h) hSC7 (.inl ⟨by kernel_rfl, by intro w hSw; rw [HSd.out] at hSw; obtain ⟨⟨e0, l0⟩, ⟨e1, e2, e3, l1⟩, ⟨e4, e5, l2⟩, ⟨e6, l3⟩, ⟨e7, l4⟩⟩ := hSw; go_simp⟩) ?_
                        simp only [Act.put]
                        try simp only [List.getElem_toArray, List.getElem_cons_succ, List.getElem_cons_zero, List.setIfInBounds_toArray, List.set_cons_succ, List.set_cons_zero]
                        refine HeadW.takeA 25 (v := .slice (some ⟨b0, off0, none⟩) p.fs.length p.cF) rfl (by kernel_rfl) rfl (by decide) (fun _ _ _ hL => seqB_ready hL.1) (by kernel_rfl) (by kernel_rfl) (fun _ _ _ h => h) hSC7 (.inl ⟨by kernel_rfl, by intro w hSw; rw [HSd.out] at hSw; obtain ⟨⟨e0, l0⟩, ⟨e1, e2, e3, l1⟩, ⟨e4, e5, l2⟩, ⟨e6, l3⟩, ⟨e7, l4⟩⟩ := hSw; go_simp⟩) ?_
                        simp only [Act.put]
                        refine HeadW.takeA 26 (v := .int .i64 (f : Int)) rfl (by kernel_rfl) rfl (by decide) (fun _ _ _ hL => seqB_ready hL.1) (by kernel_rfl) (by kernel_rfl) (fun _ _ _ h => h) hSC7 (.inl ⟨by kernel_rfl, by intro w hSw; rw [HSd.out] at hSw; obtain ⟨⟨e0, l0⟩, ⟨e1, e2, e3, l1⟩, ⟨e4, e5, l2⟩, ⟨e6, l3⟩, ⟨e7, l4⟩⟩ := hSw; go_simp⟩) ?_
                        simp only [Act.put]
                        refine HeadW.takeA 27 (v := .pointer (some ⟨b0, off0 + f * 4, none⟩)) rfl (by kernel_rfl) rfl (by decide) (fun _ _ _ hL => seqB_ready hL.1) (by kernel_rfl) (by kernel_rfl) (fun _ _ _ h => h) hSC7 (.inl ⟨by kernel_rfl, by intro w hSw; rw [HSd.out] at hSw; obtain ⟨⟨e0, l0⟩, ⟨e1, e2, e3, l1⟩, ⟨e4, e5, l2⟩, ⟨e6, l3⟩, ⟨e7, l4⟩⟩ := hSw; go_simp⟩) ?_
                        simp only [Act.put]
                        try simp only [List.getElem_toArray, List.getElem_cons_succ, List.getElem_cons_zero, List.setIfInBounds_toArray, List.set_cons_succ, List.set_cons_zero]
                        refine HeadW.takeA 28 (v := .pointer (some ⟨b0, off0 + f * 4 + 2, none⟩)) rfl (by kernel_rfl) rfl (by decide) (fun _ _ _ hL => seqB_ready hL.1) (by kernel_rfl) (by kernel_rfl) (fun _ _ _ h => h) hSC7 (.inl ⟨by kernel_rfl, by intro w hSw; rw [HSd.out] at hSw; obtain ⟨⟨e0, l0⟩, ⟨e1, e2, e3, l1⟩, ⟨e4, e5, l2⟩, ⟨e6, l3⟩, ⟨e7, l4⟩⟩ := hSw; go_simp⟩) ?_
                        simp only [Act.put]
                        refine HeadW.takeA 29 (v := .int .i64 x) rfl (by kernel_rfl) rfl (by decide) (fun _ _ _ hL => seqB_ready hL.1) (by kernel_rfl) (by kernel_rfl) (fun _ _ _ h => h) hSC7 (.inl ⟨by kernel_rfl, by intro w hSw; rw [HSd.out] at hSw; obtain ⟨⟨e0, l0⟩, ⟨e1, e2, e3, l1⟩, ⟨e4, e5, l2⟩, ⟨e6, l3⟩, ⟨e7, l4⟩⟩ := hSw; go_simp⟩) ?_
                        simp only [Act.put]
                        refine HeadW.takeA 30 (v := .bool false) rfl (by kernel_rfl) rfl (by decide) (fun _ _ _ hL => seqB_ready hL.1) (by kernel_rfl) (by kernel_rfl) (fun _ _ _ h => h) hSC7 (.inl ⟨by kernel_rfl, by intro w hSw; rw [HSd.out] at hSw; obtain ⟨⟨e0, l0⟩, ⟨e1, e2, e3, l1⟩, ⟨e4, e5, l2⟩, ⟨e6, l3⟩, ⟨e7, l4⟩⟩ := hSw; go_simp⟩) ?_
                        simp only [Act.put]
                        try simp only [List.getElem_toArray, List.getElem_cons_succ, List.getElem_cons_zero, List.setIfInBounds_toArray, List.set_cons_succ, List.set_cons_zero]
                        refine HeadW.takeA 31 (v := .bool false) rfl (by kernel_rfl) rfl (by decide) (fun _ _ _ hL => seqB_ready hL.1) (by kernel_rfl) (by kernel_rfl) (fun _ _ _ h => h) hSC7 (.inl ⟨by kernel_rfl, by intro w hSw; rw [HSd.out] at hSw; obtain ⟨⟨e0, l0⟩, ⟨e1, e2, e3, l1⟩, ⟨e4, e5, l2⟩, ⟨e6, l3⟩, ⟨e7, l4⟩⟩ := hSw; go_simp⟩) ?_
                        simp only [Act.put]
                        refine HeadW.takeA 32 (v := .bool false) rfl (by kernel_rfl) rfl (by decide) (fun _ _ _ hL => seqB_ready hL.1) (by kernel_rfl) (by kernel_rfl) (fun _ _ _ h => h) hSC7 (.inl ⟨by kernel_rfl, by intro w hSw; rw [HSd.out] at hSw; obtain ⟨⟨e0, l0⟩, ⟨e1, e2, e3, l1⟩, ⟨e4, e5, l2⟩, ⟨e6, l3⟩, ⟨e7, l4⟩⟩ := hSw; go_simp⟩) ?_
                        simp only [Act.put]
                        try simp only [List.getElem_toArray, List.getElem_cons_succ, List.getElem_cons_zero, List.setIfInBounds_toArray, List.set_cons_succ, List.set_cons_zero]
                        refine fun hInv => ⟨by kernel_rfl, ?_⟩
                        clear hInv
                        simp only [List.drop_succ_cons, List.drop_zero]
                        clear HSC HSd hSC7
                        clear SC
                        go_wp2_with fail
                        go_meet
                        case rel => exact ⟨false, rfl, Lib.hid ⟨(fun e => by cases e), (fun e => absurd e HN.out)⟩, HB67.out⟩
                    · have hxr1 : (x == rs) = false := by simpa using hxr
                      have hxr2 : (x != rs) = true := by simpa using hxr
                      as_aux_lemma =>
                        go_upto_region 20 with (fail)
                        obtain ⟨SC, hSCd⟩ : ∃ S : World → Prop, S = fun w' => (w'.cell? ⟨gH, v, none⟩ = some (.int .i64 x) ∧ gH < w'.heap.size) ∧ (w'.cell? ⟨gx, 0, none⟩ = some (.int .i64 p.mem) ∧ w'.cell? ⟨gx, 1, none⟩ = some (.slice p.AD p.data.length p.cD) ∧ w'.cell? ⟨gx, 2, none⟩ = some (.slice (some ⟨b0, off0, none⟩) p.fs.length p.cF) ∧ gx < w'.heap.size) ∧ (w'.cell? ⟨gP, 0, none⟩ = some (.int .i64 (f : Int)) ∧ w'.cell? ⟨gP, 1, none⟩ = some (.int .i64 (v : Int)) ∧ gP < w'.heap.size) ∧ (w'.cell? ⟨b1, off1 + v * 2, none⟩ = some (.int .i64 18) ∧ b1 < w'.heap.size) ∧ (w'.cell? ⟨b0, off0 + f * 4 + 2, none⟩ = some (.int .i64 rs) ∧ b0 < w'.heap.size) := ⟨_, rfl⟩
                        have hSC : SC w6.drew := by rw [hSCd]; exact ⟨⟨hx6, hl6⟩, ⟨x06, x16, x26, xl6⟩, ⟨s06, s16, sl6⟩, ⟨o06, ol6⟩, ⟨rs6, rl6⟩⟩
                        have HSC := Lib.hid (show SC w6.drew from hSC)
                        have HSd := Lib.hid hSCd
                        clear hSC hSCd
                        refine region_heldT 33 SC (by kernel_rfl) (by decide) ?_
                        refine HeadW.takeA 0 (v := .agg #[.int .i64 p.mem, .slice p.AD p.data.length p.cD, .slice (some ⟨b0, off0, none⟩) p.fs.length p.cF]) rfl (by kernel_rfl) rfl (by decide) (fun _ _ _ hL => seqB_ready hL.1) (by kernel_rfl) (by kernel_rfl) (fun _ _ _ h => h) HSC.out (.inl ⟨by kernel_rfl, by intro w hSw; rw [HSd.out] at hSw; obtain ⟨⟨e0, l0⟩, ⟨e1, e2, e3, l1⟩, ⟨e4, e5, l2⟩, ⟨e6, l3⟩, ⟨e7, l4⟩⟩ := hSw; go_simp⟩) ?_
                        simp only [Act.put, List.setIfInBounds_toArray]
                        refine HeadW.takeA 1 (v := .agg #[.int .i64 (f : Int), .int .i64 (v : Int)]) rfl (by kernel_rfl) rfl (by decide) (fun _ _ _ hL => seqB_ready hL.1) (by kernel_rfl) (by kernel_rfl) (fun _ _ _ h => h) HSC.out (.inl ⟨by kernel_rfl, by intro w hSw; rw [HSd.out] at hSw; obtain ⟨⟨e0, l0⟩, ⟨e1, e2, e3, l1⟩, ⟨e4, e5, l2⟩, ⟨e6, l3⟩, ⟨e7, l4⟩⟩ := hSw; go_simp⟩) ?_
                        simp only [Act.put]
                        refine HeadW.takeA 3 (v := .slice (some ⟨gH, 0, none⟩) N N) rfl (by kernel_rfl) rfl (by decide) (fun _ _ _ hL => seqB_ready hL.1) (by kernel_rfl) (by kernel_rfl) (fun _ _ _ h => h) HSC.out (.inl ⟨by kernel_rfl, by intro w hSw; rw [HSd.out] at hSw; obtain ⟨⟨e0, l0⟩, ⟨e1, e2, e3, l1⟩, ⟨e4, e5, l2⟩, ⟨e6, l3⟩, ⟨e7, l4⟩⟩ := hSw; go_simp⟩) ?_
                        simp only [Act.put]
                        refine HeadW.takeA 4 (v := .int .i64 (v : Int)) rfl (by kernel_rfl) rfl (by decide) (fun _ _ _ hL => seqB_ready hL.1) (by kernel_rfl) (by kernel_rfl) (fun _ _ _ h => h) HSC.out (.inl ⟨by kernel_rfl, by intro w hSw; rw [HSd.out] at hSw; obtain ⟨⟨e0, l0⟩, ⟨e1, e2, e3, l1⟩, ⟨e4, e5, l2⟩, ⟨e6, l3⟩, ⟨e7, l4⟩⟩ := hSw; go_simp⟩) ?_
                        simp only [Act.put]
                        refine HeadW.takeA 5 (v := .pointer (some ⟨gH, v, none⟩)) rfl (by kernel_rfl) rfl (by decide) (fun _ _ _ hL => seqB_ready hL.1) (by kernel_rfl) (by kernel_rfl) (fun _ _ _ h => h) HSC.out (.inl ⟨by kernel_rfl, by intro w hSw; rw [HSd.out] at hSw; obtain ⟨⟨e0, l0⟩, ⟨e1, e2, e3, l1⟩, ⟨e4, e5, l2⟩, ⟨e6, l3⟩, ⟨e7, l4⟩⟩ := hSw; go_simp⟩) ?_
                        simp only [Act.put]
                        refine HeadW.takeA 6 (v := .int .i64 x) rfl (by kernel_rfl) rfl (by decide) (fun _ _ _ hL => seqB_ready hL.1) (by kernel_rfl) (by kernel_rfl) (fun _ _ _ h => h) HSC.out (.inl ⟨by kernel_rfl, by intro w hSw; rw [HSd.out] at hSw; obtain ⟨⟨e0, l0⟩, ⟨e1, e2, e3, l1⟩, ⟨e4, e5, l2⟩, ⟨e6, l3⟩, ⟨e7, l4⟩⟩ := hSw; go_simp⟩) ?_
                        simp only [Act.put]
                        refine headW_one 2 rfl (by decide) (by kernel_rfl) (by kernel_rfl) fun K hK => ?_
                        go_simp
                        refine HWn.out.mono ?_
                        rintro e w7 ⟨rfl, hb7⟩
                        have hb67 : Below w6.heap.size w6 w7 := (Below.refl _ w6).drew.trans hb7
                        have HB67 := Lib.hid hb67
                        have hSC7 : SC w7 := by
                          have h := HSC.out
                          rw [HSd.out] at h ⊢
                          obtain ⟨⟨e0, l0⟩, ⟨e1, e2, e3, l1⟩, ⟨e4, e5, l2⟩, ⟨e6, l3⟩, ⟨e7, l4⟩⟩ := h
                          obtain ⟨hc, -⟩ := bcell hb67
                          have hz := hb67.size
                          exact ⟨⟨(hc _ _ l0).trans e0, by omega⟩, ⟨(hc _ _ l1).trans e1, (hc _ _ l1).trans e2, (hc _ _ l1).trans e3, by omega⟩, ⟨(hc _ _ l2).trans e4, (hc _ _ l2).trans e5, by omega⟩, ⟨(hc _ _ l3).trans e6, by omega⟩, ⟨(hc _ _ l4).trans e7, by omega⟩⟩
                        refine hK.out _ _ hSC7 (fun hHeld => ?_)
                        clear hK K hHeld hb7 hb67
                        try simp only [List.getElem_toArray, List.getElem_cons_succ, List.getElem_cons_zero, List.setIfInBounds_toArray, List.set_cons_succ, List.set_cons_zero]
                        refine HeadW.takeA 7 (v := .bool false) rfl (by kernel_rfl) rfl (by decide) (fun _ _ _ hL => seqB_ready hL.1) (by kernel_rfl) (by kernel_rfl) (fun _ _ _ h => h) hSC7 (.inl ⟨by kernel_rfl, by intro w hSw; rw [HSd.out] at hSw; obtain ⟨⟨e0, l0⟩, ⟨e1, e2, e3, l1⟩, ⟨e4, e5, l2⟩, ⟨e6, l3⟩, ⟨e7, l4⟩⟩ := hSw; go_simp⟩) ?_
                        simp only [Act.put]
                        refine HeadW.takeA 8 (v := .bool false) rfl (by kernel_rfl) rfl (by decide) (fun _ _ _ hL => seqB_ready hL.1) (by kernel_rfl) (by kernel_rfl) (fun _ _ _ h => h) hSC7 (.inl ⟨by kernel_rfl, by intro w hSw; rw [HSd.out] at hSw; obtain ⟨⟨e0, l0⟩, ⟨e1, e2, e3, l1⟩, ⟨e4, e5, l2⟩, ⟨e6, l3⟩, ⟨e7, l4⟩⟩ := hSw; go_simp⟩) ?_
                        simp only [Act.put]
                        refine HeadW.takeA 9 (v := .int .i64 bh) rfl (by kernel_rfl) rfl (by decide) (fun _ _ _ hL => seqB_ready hL.1) (by kernel_rfl) (by kernel_rfl) (fun _ _ _ h => h) hSC7 (.inl ⟨by kernel_rfl, by intro w hSw; rw [HSd.out] at hSw; obtain ⟨⟨e0, l0⟩, ⟨e1, e2, e3, l1⟩, ⟨e4, e5, l2⟩, ⟨e6, l3⟩, ⟨e7, l4⟩⟩ := hSw; go_simp⟩) ?_
                        simp only [Act.put]
                        try simp only [List.getElem_toArray, List.getElem_cons_succ, List.getElem_cons_zero, List.setIfInBounds_toArray, List.set_cons_succ, List.set_cons_zero]
                        refine HeadW.takeA 10 (v := .bool false) rfl (by kernel_rfl) rfl (by decide) (fun _ _ _ hL => seqB_ready hL.1) (by kernel_rfl) (by kernel_rfl) (fun _ _ _ h => h) hSC7 (.inl ⟨by kernel_rfl, by intro w hSw; rw [HSd.out] at hSw; obtain ⟨⟨e0, l0⟩, ⟨e1, e2, e3, l1⟩, ⟨e4, e5, l2⟩, ⟨e6, l3⟩, ⟨e7, l4⟩⟩ := hSw; go_simp⟩) ?_
                        simp only [Act.put]
                        refine HeadW.takeA 11 (v := .bool false) rfl (by kernel_rfl) rfl (by decide) (fun _ _ _ hL => seqB_ready hL.1) (by kernel_rfl) (by kernel_rfl) (fun _ _ _ h => h) hSC7 (.inl ⟨by kernel_rfl, by intro w hSw; rw [HSd.out] at hSw; obtain ⟨⟨e0, l0⟩, ⟨e1, e2, e3, l1⟩, ⟨e4, e5, l2⟩, ⟨e6, l3⟩, ⟨e7, l4⟩⟩ := hSw; go_simp⟩) ?_
                        simp only [Act.put]
                        refine HeadW.takeA 12 (v := .bool false) rfl (by kernel_rfl) rfl (by decide) (fun _ _ _ hL => seqB_ready hL.1) (by kernel_rfl) (by kernel_rfl) (fun _ _ _ h => h) hSC7 (.inl ⟨by kernel_rfl, by intro w hSw; rw [HSd.out] at hSw; obtain ⟨⟨e0, l0⟩, ⟨e1, e2, e3, l1⟩, ⟨e4, e5, l2⟩, ⟨e6, l3⟩, ⟨e7, l4⟩⟩ := hSw; go_simp⟩) ?_
                        simp only [Act.put]
                        try simp only [List.getElem_toArray, List.getElem_cons_succ, List.getElem_cons_zero, List.setIfInBounds_toArray, List.set_cons_succ, List.set_cons_zero]
                        refine HeadW.takeA 13 (v := .slice (some ⟨b1, off1, none⟩) N g.c) rfl (by kernel_rfl) rfl (by decide) (fun _ _ _ hL => seqB_ready hL.1) (by kernel_rfl) (by kernel_rfl) (fun _ _ _ h => h) hSC7 (.inl ⟨by kernel_rfl, by intro w hSw; rw [HSd.out] at hSw; obtain ⟨⟨e0, l0⟩, ⟨e1, e2, e3, l1⟩, ⟨e4, e5, l2⟩, ⟨e6, l3⟩, ⟨e7, l4⟩⟩ := hSw; go_simp⟩) ?_
                        simp only [Act.put]
                        refine HeadW.takeA 14 (v := .int .i64 (v : Int)) rfl (by kernel_rfl) rfl (by decide) (fun _ _ _ hL => seqB_ready hL.1) (by kernel_rfl) (by kernel_rfl) (fun _ _ _ h => h) hSC7 (.inl ⟨by kernel_rfl, by intro w hSw; rw [HSd.out] at hSw; obtain ⟨⟨e0, l0⟩, ⟨e1, e2, e3, l1⟩, ⟨e4, e5, l2⟩, ⟨e6, l3⟩, ⟨e7, l4⟩⟩ := hSw; go_simp⟩) ?_
                        simp only [Act.put]
                        refine HeadW.takeA 15 (v := .pointer (some ⟨b1, off1 + v * 2, none⟩)) rfl (by kernel_rfl) rfl (by decide) (fun _ _ _ hL => seqB_ready hL.1) (by kernel_rfl) (by kernel_rfl) (fun _ _ _ h => h) hSC7 (.inl ⟨by kernel_rfl, by intro w hSw; rw [HSd.out] at hSw; obtain ⟨⟨e0, l0⟩, ⟨e1, e2, e3, l1⟩, ⟨e4, e5, l2⟩, ⟨e6, l3⟩, ⟨e7, l4⟩⟩ := hSw; go_simp⟩) ?_
                        simp only [Act.put]
                        try simp only [List.getElem_toArray, List.getElem_cons_succ, List.getElem_cons_zero, List.setIfInBounds_toArray, List.set_cons_succ, List.set_cons_zero]
                        refine HeadW.takeA 16 (v := .pointer (some ⟨b1, off1 + v * 2, none⟩)) rfl (by kernel_rfl) rfl (by decide) (fun _ _ _ hL => seqB_ready hL.1) (by kernel_rfl) (by kernel_rfl) (fun _ _ _ h => h) hSC7 (.inl ⟨by kernel_rfl, by intro w hSw; rw [HSd.out] at hSw; obtain ⟨⟨e0, l0⟩, ⟨e1, e2, e3, l1⟩, ⟨e4, e5, l2⟩, ⟨e6, l3⟩, ⟨e7, l4⟩⟩ := hSw; go_simp⟩) ?_
                        simp only [Act.put]
                        refine HeadW.takeA 17 (v := .int .i64 18) rfl (by kernel_rfl) rfl (by decide) (fun _ _ _ hL => seqB_ready hL.1) (by kernel_rfl) (by kernel_rfl) (fun _ _ _ h => h) hSC7 (.inl ⟨by kernel_rfl, by intro w hSw; rw [HSd.out] at hSw; obtain ⟨⟨e0, l0⟩, ⟨e1, e2, e3, l1⟩, ⟨e4, e5, l2⟩, ⟨e6, l3⟩, ⟨e7, l4⟩⟩ := hSw; go_simp⟩) ?_
                        simp only [Act.put]
                        refine HeadW.takeA 18 (v := .bool true) rfl (by kernel_rfl) rfl (by decide) (fun _ _ _ hL => seqB_ready hL.1) (by kernel_rfl) (by kernel_rfl) (fun _ _ _ h => h) hSC7 (.inl ⟨by kernel_rfl, by intro w hSw; rw [HSd.out] at hSw; obtain ⟨⟨e0, l0⟩, ⟨e1, e2, e3, l1⟩, ⟨e4, e5, l2⟩, ⟨e6, l3⟩, ⟨e7, l4⟩⟩ := hSw; go_simp⟩) ?_
                        simp only [Act.put]
                        try simp only [List.getElem_toArray, List.getElem_cons_succ, List.getElem_cons_zero, List.setIfInBounds_toArray, List.set_cons_succ, List.set_cons_zero]
                        refine HeadW.takeA 19 (v := .bool true) rfl (by kernel_rfl) rfl (by decide) (fun _ _ _ hL => seqB_ready hL.1) (by kernel_rfl) (by kernel_rfl) (fun _ _ _ h => h) hSC7 (.inl ⟨by kernel_rfl, by intro w hSw; rw [HSd.out] at hSw; obtain ⟨⟨e0, l0⟩, ⟨e1, e2, e3, l1⟩, ⟨e4, e5, l2⟩, ⟨e6, l3⟩, ⟨e7, l4⟩⟩ := hSw; go_simp⟩) ?_
                        simp only [Act.put]
                        refine HeadW.takeA 20 (v := .slice (some ⟨gH, 0, none⟩) N N) rfl (by kernel_rfl) rfl (by decide) (fun _ _ _ hL => seqB_ready hL.1) (by kernel_rfl) (by kernel_rfl) (fun _ _ _ h => h) hSC7 (.inl ⟨by kernel_rfl, by intro w hSw; rw [HSd.out] at hSw; obtain ⟨⟨e0, l0⟩, ⟨e1, e2, e3, l1⟩, ⟨e4, e5, l2⟩, ⟨e6, l3⟩, ⟨e7, l4⟩⟩ := hSw; go_simp⟩) ?_
                        simp only [Act.put]
                        refine HeadW.takeA 21 (v := .int .i64 (v : Int)) rfl (by kernel_rfl) rfl (by decide) (fun _ _ _ hL => seqB_ready hL.1) (by kernel_rfl) (by kernel_rfl) (fun _ _ _ h => h) hSC7 (.inl ⟨by kernel_rfl, by intro w hSw; rw [HSd.out] at hSw; obtain ⟨⟨e0, l0⟩, ⟨e1, e2, e3, l1⟩, ⟨e4, e5, l2⟩, ⟨e6, l3⟩, ⟨e7, l4⟩⟩ := hSw; go_simp⟩) ?_
                        simp only [Act.put]
                        try simp only [List.getElem_toArray, List.getElem_cons_succ, List.getElem_cons_zero, List.setIfInBounds_toArray, List.set_cons_succ, List.set_cons_zero]
                        refine HeadW.takeA 22 (v := .pointer (some ⟨gH, v, none⟩)) rfl (by kernel_rfl) rfl (by decide) (fun _ _ _ hL => seqB_ready hL.1) (by kernel_rfl) (by kernel_rfl) (fun _ _ _ h => h) hSC7 (.inl ⟨by kernel_rfl, by intro w hSw; rw [HSd.out] at hSw; obtain ⟨⟨e0, l0⟩, ⟨e1, e2, e3, l1⟩, ⟨e4, e5, l2⟩, ⟨e6, l3⟩, ⟨e7, l4⟩⟩ := hSw; go_simp⟩) ?_
                        simp only [Act.put]
                        refine HeadW.takeA 23 (v := .int .i64 x) rfl (by kernel_rfl) rfl (by decide) (fun _ _ _ hL => seqB_ready hL.1) (by kernel_rfl) (by kernel_rfl) (fun _ _ _ h => h) hSC7 (.inl ⟨by kernel_rfl, by intro w hSw; rw [HSd.out] at hSw; obtain ⟨⟨e0, l0⟩, ⟨e1, e2, e3, l1⟩, ⟨e4, e5, l2⟩, ⟨e6, l3⟩, ⟨e7, l4⟩⟩ := hSw; go_simp⟩) ?_
                        simp only [Act.put]
                        refine HeadW.takeA 24 (v := .pointer (some ⟨gx, 2, none⟩)) rfl (by kernel_rfl) rfl (by decide) (fun _ _ _ hL => seqB_ready hL.1) (by kernel_rfl) (by kernel_rfl) (fun _ _ _ h => h) hSC7 (.inl ⟨by kernel_rfl, by intro w hSw; rw [HSd.out] at hSw; obtain ⟨⟨e0, l0⟩, ⟨e1, e2, e3, l1⟩, ⟨e4, e5, l2⟩, ⟨e6, l3⟩, ⟨e7, l4⟩⟩ := hSw; go_simp⟩) ?_
                        simp only [Act.put]
                        try simp only [List.getElem_toArray, List.getElem_cons_succ, List.getElem_cons_zero, List.setIfInBounds_toArray, List.set_cons_succ, List.set_cons_zero]
                        refine HeadW.takeA 25 (v := .slice (some ⟨b0, off0, none⟩) p.fs.length p.cF) rfl (by kernel_rfl) rfl (by decide) (fun _ _ _ hL => seqB_ready hL.1) (by kernel_rfl) (by kernel_rfl) (fun _ _ _ h => h) hSC7 (.inl ⟨by kernel_rfl, by intro w hSw; rw [HSd.out] at hSw; obtain ⟨⟨e0, l0⟩, ⟨e1, e2, e3, l1⟩, ⟨e4, e5, l2⟩, ⟨e6, l3⟩, ⟨e7, l4⟩⟩ := hSw; go_simp⟩) ?_
                        simp only [Act.put]
                        refine HeadW.takeA 26 (v := .int .i64 (f : Int)) rfl (by kernel_rfl) rfl (by decide) (fun _ _ _ hL => seqB_ready hL.1) (by kernel_rfl) (by kernel_rfl) (fun _ _ _ h => h) hSC7 (.inl ⟨by kernel_rfl, by intro w hSw; rw [HSd.out] at hSw; obtain ⟨⟨e0, l0⟩, ⟨e1, e2, e3, l1⟩, ⟨e4, e5, l2⟩, ⟨e6, l3⟩, ⟨e7, l4⟩⟩ := hSw; go_simp⟩) ?_
                        simp only [Act.put]
                        refine HeadW.takeA 27 (v := .pointer (some ⟨b0, off0 + f * 4, none⟩)) rfl (by kernel_rfl) rfl (by decide) (fun _ _ _ hL => seqB_ready hL.1) (by kernel_rfl) (by kernel_rfl) (fun _ _ _ h => h) hSC7 (.inl ⟨by kernel_rfl, by intro w hSw; rw [HSd.out] at hSw; obtain ⟨⟨e0, l0⟩, ⟨e1, e2, e3, l1⟩, ⟨e4, e5, l2⟩, ⟨e6, l3⟩, ⟨e7, l4⟩⟩ := hSw; go_simp⟩) ?_
                        simp only [Act.put]
                        try simp only [List.getElem_toArray, List.getElem_cons_succ, List.getElem_cons_zero, List.setIfInBounds_toArray, List.set_cons_succ, List.set_cons_zero]
                        refine HeadW.takeA 28 (v := .pointer (some ⟨b0, off0 + f * 4 + 2, none⟩)) rfl (by kernel_rfl) rfl (by decide) (fun _ _ _ hL => seqB_ready hL.1) (by kernel_rfl) (by kernel_rfl) (fun _ _ _ h => h) hSC7 (.inl ⟨by kernel_rfl, by intro w hSw; rw [HSd.out] at hSw; obtain ⟨⟨e0, l0⟩, ⟨e1, e2, e3, l1⟩, ⟨e4, e5, l2⟩, ⟨e6, l3⟩, ⟨e7, l4⟩⟩ := hSw; go_simp⟩) ?_
                        simp only [Act.put]
                        refine HeadW.takeA 29 (v := .int .i64 rs) rfl (by kernel_rfl) rfl (by decide) (fun _ _ _ hL => seqB_ready hL.1) (by kernel_rfl) (by kernel_rfl) (fun _ _ _ h => h) hSC7 (.inl ⟨by kernel_rfl, by intro w hSw; rw [HSd.out] at hSw; obtain ⟨⟨e0, l0⟩, ⟨e1, e2, e3, l1⟩, ⟨e4, e5, l2⟩, ⟨e6, l3⟩, ⟨e7, l4⟩⟩ := hSw; go_simp⟩) ?_
                        simp only [Act.put]
                        refine HeadW.takeA 30 (v := .bool true) rfl (by kernel_rfl) rfl (by decide) (fun _ _ _ hL => seqB_ready hL.1) (by kernel_rfl) (by kernel_rfl) (fun _ _ _ h => h) hSC7 (.inl ⟨by kernel_rfl, by intro w hSw; rw [HSd.out] at hSw; obtain ⟨⟨e0, l0⟩, ⟨e1, e2, e3, l1⟩, ⟨e4, e5, l2⟩, ⟨e6, l3⟩, ⟨e7, l4⟩⟩ := hSw; go_simp⟩) ?_
                        simp only [Act.put]
                        try simp only [List.getElem_toArray, List.getElem_cons_succ, List.getElem_cons_zero, List.setIfInBounds_toArray, List.set_cons_succ, List.set_cons_zero]
                        refine HeadW.takeA 31 (v := .bool true) rfl (by kernel_rfl) rfl (by decide) (fun _ _ _ hL => seqB_ready hL.1) (by kernel_rfl) (by kernel_rfl) (fun _ _ _ h => h) hSC7 (.inl ⟨by kernel_rfl, by intro w hSw; rw [HSd.out] at hSw; obtain ⟨⟨e0, l0⟩, ⟨e1, e2, e3, l1⟩, ⟨e4, e5, l2⟩, ⟨e6, l3⟩, ⟨e7, l4⟩⟩ := hSw; go_simp⟩) ?_
                        simp only [Act.put]
                        refine HeadW.takeA 32 (v := .bool true) rfl (by kernel_rfl) rfl (by decide) (fun _ _ _ hL => seqB_ready hL.1) (by kernel_rfl) (by kernel_rfl) (fun _ _ _ h => h) hSC7 (.inl ⟨by kernel_rfl, by intro w hSw; rw [HSd.out] at hSw; obtain ⟨⟨e0, l0⟩, ⟨e1, e2, e3, l1⟩, ⟨e4, e5, l2⟩, ⟨e6, l3⟩, ⟨e7, l4⟩⟩ := hSw; go_simp⟩) ?_
                        simp only [Act.put]
                        try simp only [List.getElem_toArray, List.getElem_cons_succ, List.getElem_cons_zero, List.setIfInBounds_toArray, List.set_cons_succ, List.set_cons_zero]
                        refine fun hInv => ⟨by kernel_rfl, ?_⟩
                        clear hInv
                        simp only [List.drop_succ_cons, List.drop_zero]
                        clear HSC HSd hSC7
                        clear SC
                        go_wp2_with fail
                        go_meet
                        case rel => exact ⟨true, rfl, Lib.hid ⟨fun _ => (.inr (.inr ⟨rfl, by rw [Hrs2.out]; exact hxr⟩)), fun _ => rfl⟩, HB67.out⟩
                  · have hop : (op == 18) = false := by simpa using h18
                    have HN := Lib.hid (show ¬ badT p.plain f v ⟨op, aa⟩ x from by
                      unfold badT
                      rw [← HW.out, ← Hbh.out]
                      rintro (h | h | ⟨h, -⟩)
                      · exact hWx h
                      · exact hbn h
                      · exact h18 h)
                    as_aux_lemma =>
                      go_upto_region 20 with (fail)
                      obtain ⟨SC, hSCd⟩ : ∃ S : World → Prop, S = fun w' => (w'.cell? ⟨gH, v, none⟩ = some (.int .i64 x) ∧ gH < w'.heap.size) ∧ (w'.cell? ⟨gx, 0, none⟩ = some (.int .i64 p.mem) ∧ w'.cell? ⟨gx, 1, none⟩ = some (.slice p.AD p.data.length p.cD) ∧ w'.cell? ⟨gx, 2, none⟩ = some (.slice (some ⟨b0, off0, none⟩) p.fs.length p.cF) ∧ gx < w'.heap.size) ∧ (w'.cell? ⟨gP, 0, none⟩ = some (.int .i64 (f : Int)) ∧ w'.cell? ⟨gP, 1, none⟩ = some (.int .i64 (v : Int)) ∧ gP < w'.heap.size) ∧ (w'.cell? ⟨b1, off1 + v * 2, none⟩ = some (.int .i64 op) ∧ b1 < w'.heap.size) ∧ (w'.cell? ⟨b0, off0 + f * 4 + 2, none⟩ = some (.int .i64 rs) ∧ b0 < w'.heap.size) := ⟨_, rfl⟩
                      have hSC : SC w6.drew := by rw [hSCd]; exact ⟨⟨hx6, hl6⟩, ⟨x06, x16, x26, xl6⟩, ⟨s06, s16, sl6⟩, ⟨o06, ol6⟩, ⟨rs6, rl6⟩⟩
                      have HSC := Lib.hid (show SC w6.drew from hSC)
                      have HSd := Lib.hid hSCd
                      clear hSC hSCd
                      refine region_heldT 33 SC (by kernel_rfl) (by decide) ?_
                      refine HeadW.takeA 0 (v := .agg #[.int .i64 p.mem, .slice p.AD p.data.length p.cD, .slice (some ⟨b0, off0, none⟩) p.fs.length p.cF]) rfl (by kernel_rfl) rfl (by decide) (fun _ _ _ hL => seqB_ready hL.1) (by kernel_rfl) (by kernel_rfl) (fun _ _ _ h => h) HSC.out (.inl ⟨by kernel_rfl, by intro w hSw; rw [HSd.out] at hSw; obtain ⟨⟨e0, l0⟩, ⟨e1, e2, e3, l1⟩, ⟨e4, e5, l2⟩, ⟨e6, l3⟩, ⟨e7, l4⟩⟩ := hSw; go_simp⟩) ?_
                      simp only [Act.put, List.setIfInBounds_toArray]
                      refine HeadW.takeA 1 (v := .agg #[.int .i64 (f : Int), .int .i64 (v : Int)]) rfl (by kernel_rfl) rfl (by decide) (fun _ _ _ hL => seqB_ready hL.1) (by kernel_rfl) (by kernel_rfl) (fun _ _ _ h => h) HSC.out (.inl ⟨by kernel_rfl, by intro w hSw; rw [HSd.out] at hSw; obtain ⟨⟨e0, l0⟩, ⟨e1, e2, e3, l1⟩, ⟨e4, e5, l2⟩, ⟨e6, l3⟩, ⟨e7, l4⟩⟩ := hSw; go_simp⟩) ?_
                      simp only [Act.put]
                      refine HeadW.takeA 3 (v := .slice (some ⟨gH, 0, none⟩) N N) rfl (by kernel_rfl) rfl (by decide) (fun _ _ _ hL => seqB_ready hL.1) (by kernel_rfl) (by kernel_rfl) (fun _ _ _ h => h) HSC.out (.inl ⟨by kernel_rfl, by intro w hSw; rw [HSd.out] at hSw; obtain ⟨⟨e0, l0⟩, ⟨e1, e2, e3, l1⟩, ⟨e4, e5, l2⟩, ⟨e6, l3⟩, ⟨e7, l4⟩⟩ := hSw; go_simp⟩) ?_
                      simp only [Act.put]
                      refine HeadW.takeA 4 (v := .int .i64 (v : Int)) rfl (by kernel_rfl) rfl (by decide) (fun _ _ _ hL => seqB_ready hL.1) (by kernel_rfl) (by kernel_rfl) (fun _ _ _ h => h) HSC.out (.inl ⟨by kernel_rfl, by intro w hSw; rw [HSd.out] at hSw; obtain ⟨⟨e0, l0⟩, ⟨e1, e2, e3, l1⟩, ⟨e4, e5, l2⟩, ⟨e6, l3⟩, ⟨e7, l4⟩⟩ := hSw; go_simp⟩) ?_
                      simp only [Act.put]
                      refine HeadW.takeA 5 (v := .pointer (some ⟨gH, v, none⟩)) rfl (by kernel_rfl) rfl (by decide) (fun _ _ _ hL => seqB_ready hL.1) (by kernel_rfl) (by kernel_rfl) (fun _ _ _ h => h) HSC.out (.inl ⟨by kernel_rfl, by intro w hSw; rw [HSd.out] at hSw; obtain ⟨⟨e0, l0⟩, ⟨e1, e2, e3, l1⟩, ⟨e4, e5, l2⟩, ⟨e6, l3⟩, ⟨e7, l4⟩⟩ := hSw; go_simp⟩) ?_
                      simp only [Act.put]
                      refine HeadW.takeA 6 (v := .int .i64 x) rfl (by kernel_rfl) rfl (by decide) (fun _ _ _ hL => seqB_ready hL.1) (by kernel_rfl) (by kernel_rfl) (fun _ _ _ h => h) HSC.out (.inl ⟨by kernel_rfl, by intro w hSw; rw [HSd.out] at hSw; obtain ⟨⟨e0, l0⟩, ⟨e1, e2, e3, l1⟩, ⟨e4, e5, l2⟩, ⟨e6, l3⟩, ⟨e7, l4⟩⟩ := hSw; go_simp⟩) ?_
                      simp only [Act.put]
                      refine headW_one 2 rfl (by decide) (by kernel_rfl) (by kernel_rfl) fun K hK => ?_
                      go_simp
                      refine HWn.out.mono ?_
                      rintro e w7 ⟨rfl, hb7⟩
                      have hb67 : Below w6.heap.size w6 w7 := (Below.refl _ w6).drew.trans hb7
                      have HB67 := Lib.hid hb67
                      have hSC7 : SC w7 := by
                        have h := HSC.out
                        rw [HSd.out] at h ⊢
                        obtain ⟨⟨e0, l0⟩, ⟨e1, e2, e3, l1⟩, ⟨e4, e5, l2⟩, ⟨e6, l3⟩, ⟨e7, l4⟩⟩ := h
                        obtain ⟨hc, -⟩ := bcell hb67
                        have hz := hb67.size
                        exact ⟨⟨(hc _ _ l0).trans e0, by omega⟩, ⟨(hc _ _ l1).trans e1, (hc _ _ l1).trans e2, (hc _ _ l1).trans e3, by omega⟩, ⟨(hc _ _ l2).trans e4, (hc _ _ l2).trans e5, by omega⟩, ⟨(hc _ _ l3).trans e6, by omega⟩, ⟨(hc _ _ l4).trans e7, by omega⟩⟩
                      refine hK.out _ _ hSC7 (fun hHeld => ?_)
                      clear hK K hHeld hb7 hb67
                      try simp only [List.getElem_toArray, List.getElem_cons_succ, List.getElem_cons_zero, List.setIfInBounds_toArray, List.set_cons_succ, List.set_cons_zero]
                      refine HeadW.takeA 7 (v := .bool false) rfl (by kernel_rfl) rfl (by decide) (fun _ _ _ hL => seqB_ready hL.1) (by kernel_rfl) (by kernel_rfl) (fun _ _ _ h => h) hSC7 (.inl ⟨by kernel_rfl, by intro w hSw; rw [HSd.out] at hSw; obtain ⟨⟨e0, l0⟩, ⟨e1, e2, e3, l1⟩, ⟨e4, e5, l2⟩, ⟨e6, l3⟩, ⟨e7, l4⟩⟩ := hSw; go_simp⟩) ?_
                      simp only [Act.put]
                      refine HeadW.takeA 8 (v := .bool false) rfl (by kernel_rfl) rfl (by decide) (fun _ _ _ hL => seqB_ready hL.1) (by kernel_rfl) (by kernel_rfl) (fun _ _ _ h => h) hSC7 (.inl ⟨by kernel_rfl, by intro w hSw; rw [HSd.out] at hSw; obtain ⟨⟨e0, l0⟩, ⟨e1, e2, e3, l1⟩, ⟨e4, e5, l2⟩, ⟨e6, l3⟩, ⟨e7, l4⟩⟩ := hSw; go_simp⟩) ?_
                      simp only [Act.put]
                      refine HeadW.takeA 9 (v := .int .i64 bh) rfl (by kernel_rfl) rfl (by decide) (fun _ _ _ hL => seqB_ready hL.1) (by kernel_rfl) (by kernel_rfl) (fun _ _ _ h => h) hSC7 (.inl ⟨by kernel_rfl, by intro w hSw; rw [HSd.out] at hSw; obtain ⟨⟨e0, l0⟩, ⟨e1, e2, e3, l1⟩, ⟨e4, e5, l2⟩, ⟨e6, l3⟩, ⟨e7, l4⟩⟩ := hSw; go_simp⟩) ?_
                      simp only [Act.put]
                      try simp only [List.getElem_toArray, List.getElem_cons_succ, List.getElem_cons_zero, List.setIfInBounds_toArray, List.set_cons_succ, List.set_cons_zero]
                      refine HeadW.takeA 10 (v := .bool false) rfl (by kernel_rfl) rfl (by decide) (fun _ _ _ hL => seqB_ready hL.1) (by kernel_rfl) (by kernel_rfl) (fun _ _ _ h => h) hSC7 (.inl ⟨by kernel_rfl, by intro w hSw; rw [HSd.out] at hSw; obtain ⟨⟨e0, l0⟩, ⟨e1, e2, e3, l1⟩, ⟨e4, e5, l2⟩, ⟨e6, l3⟩, ⟨e7, l4⟩⟩ := hSw; go_simp⟩) ?_
                      simp only [Act.put]
                      refine HeadW.takeA 11 (v := .bool false) rfl (by kernel_rfl) rfl (by decide) (fun _ _ _ hL => seqB_ready hL.1) (by kernel_rfl) (by kernel_rfl) (fun _ _ _ h => h) hSC7 (.inl ⟨by kernel_rfl, by intro w hSw; rw [HSd.out] at hSw; obtain ⟨⟨e0, l0⟩, ⟨e1, e2, e3, l1⟩, ⟨e4, e5, l2⟩, ⟨e6, l3⟩, ⟨e7, l4⟩⟩ := hSw; go_simp⟩) ?_
                      simp only [Act.put]
                      refine HeadW.takeA 12 (v := .bool false) rfl (by kernel_rfl) rfl (by decide) (fun _ _ _ hL => seqB_ready hL.1) (by kernel_rfl) (by kernel_rfl) (fun _ _ _ h => h) hSC7 (.inl ⟨by kernel_rfl, by intro w hSw; rw [HSd.out] at hSw; obtain ⟨⟨e0, l0⟩, ⟨e1, e2, e3, l1⟩, ⟨e4, e5, l2⟩, ⟨e6, l3⟩, ⟨e7, l4⟩⟩ := hSw; go_simp⟩) ?_
                      simp only [Act.put]
                      try simp only [List.getElem_toArray, List.getElem_cons_succ, List.getElem_cons_zero, List.setIfInBounds_toArray, List.set_cons_succ, List.set_cons_zero]
                      refine HeadW.takeA 13 (v := .slice (some ⟨b1, off1, none⟩) N g.c) rfl (by kernel_rfl) rfl (by decide) (fun _ _ _ hL => seqB_ready hL.1) (by kernel_rfl) (by kernel_rfl) (fun _ _ _ h => h) hSC7 (.inl ⟨by kernel_rfl, by intro w hSw; rw [HSd.out] at hSw; obtain ⟨⟨e0, l0⟩, ⟨e1, e2, e3, l1⟩, ⟨e4, e5, l2⟩, ⟨e6, l3⟩, ⟨e7, l4⟩⟩ := hSw; go_simp⟩) ?_
                      simp only [Act.put]
                      refine HeadW.takeA 14 (v := .int .i64 (v : Int)) rfl (by kernel_rfl) rfl (by decide) (fun _ _ _ hL => seqB_ready hL.1) (by kernel_rfl) (by kernel_rfl) (fun _ _ _ h => h) hSC7 (.inl ⟨by kernel_rfl, by intro w hSw; rw [HSd.out] at hSw; obtain ⟨⟨e0, l0⟩, ⟨e1, e2, e3, l1⟩, ⟨e4, e5, l2⟩, ⟨e6, l3⟩, ⟨e7, l4⟩⟩ := hSw; go_simp⟩) ?_
                      simp only [Act.put]
                      refine HeadW.takeA 15 (v := .pointer (some ⟨b1, off1 + v * 2, none⟩)) rfl (by kernel_rfl) rfl (by decide) (fun _ _ _ hL => seqB_ready hL.1) (by kernel_rfl) (by kernel_rfl) (fun _ _ _ h => h) hSC7 (.inl ⟨by kernel_rfl, by intro w hSw; rw [HSd.out] at hSw; obtain ⟨⟨e0, l0⟩, ⟨e1, e2, e3, l1⟩, ⟨e4, e5, l2⟩, ⟨e6, l3⟩, ⟨e7, l4⟩⟩ := hSw; go_simp⟩) ?_
                      simp only [Act.put]
                      try simp only [List.getElem_toArray, List.getElem_cons_succ, List.getElem_cons_zero, List.setIfInBounds_toArray, List.set_cons_succ, List.set_cons_zero]
                      refine HeadW.takeA 16 (v := .pointer (some ⟨b1, off1 + v * 2, none⟩)) rfl (by kernel_rfl) rfl (by decide) (fun _ _ _ hL => seqB_ready hL.1) (by kernel_rfl) (by kernel_rfl) (fun _ _ _ h => h) hSC7 (.inl ⟨by kernel_rfl, by intro w hSw; rw [HSd.out] at hSw; obtain ⟨⟨e0, l0⟩, ⟨e1, e2, e3, l1⟩, ⟨e4, e5, l2⟩, ⟨e6, l3⟩, ⟨e7, l4⟩⟩ := hSw; go_simp⟩) ?_
                      simp only [Act.put]
                      refine HeadW.takeA 17 (v := .int .i64 op) rfl (by kernel_rfl) rfl (by decide) (fun _ _ _ hL => seqB_ready hL.1) (by kernel_rfl) (by kernel_rfl) (fun _ _ _ h => h) hSC7 (.inl ⟨by kernel_rfl, by intro w hSw; rw [HSd.out] at hSw; obtain ⟨⟨e0, l0⟩, ⟨e1, e2, e3, l1⟩, ⟨e4, e5, l2⟩, ⟨e6, l3⟩, ⟨e7, l4⟩⟩ := hSw; go_simp⟩) ?_
                      simp only [Act.put]
                      refine HeadW.takeA 18 (v := .bool false) rfl (by kernel_rfl) rfl (by decide) (fun _ _ _ hL => seqB_ready hL.1) (by kernel_rfl) (by kernel_rfl) (fun _ _ _ h => h) hSC7 (.inl ⟨by kernel_rfl, by intro w hSw; rw [HSd.out] at hSw; obtain ⟨⟨e0, l0⟩, ⟨e1, e2, e3, l1⟩, ⟨e4, e5, l2⟩, ⟨e6, l3⟩, ⟨e7, l4⟩⟩ := hSw; go_simp⟩) ?_
                      simp only [Act.put]
                      try simp only [List.getElem_toArray, List.getElem_cons_succ, List.getElem_cons_zero, List.setIfInBounds_toArray, List.set_cons_succ, List.set_cons_zero]
                      refine HeadW.takeA 19 (v := .bool false) rfl (by kernel_rfl) rfl (by decide) (fun _ _ _ hL => seqB_ready hL.1) (by kernel_rfl) (by kernel_rfl) (fun _ _ _ h => h) hSC7 (.inl ⟨by kernel_rfl, by intro w hSw; rw [HSd.out] at hSw; obtain ⟨⟨e0, l0⟩, ⟨e1, e2, e3, l1⟩, ⟨e4, e5, l2⟩, ⟨e6, l3⟩, ⟨e7, l4⟩⟩ := hSw; go_simp⟩) ?_
                      simp only [Act.put]
                      refine HeadW.takeA 20 (v := undef) rfl (by kernel_rfl) rfl (by decide) (fun _ _ _ hL => seqB_ready hL.1) (by kernel_rfl) (by kernel_rfl) (fun _ _ _ h => h) hSC7 (.inr ⟨by kernel_rfl, rfl⟩) ?_
                      simp only [Act.put]
                      refine HeadW.takeA 21 (v := undef) rfl (by kernel_rfl) rfl (by decide) (fun _ _ _ hL => seqB_ready hL.1) (by kernel_rfl) (by kernel_rfl) (fun _ _ _ h => h) hSC7 (.inr ⟨by kernel_rfl, rfl⟩) ?_
                      simp only [Act.put]
                      try simp only [List.getElem_toArray, List.getElem_cons_succ, List.getElem_cons_zero, List.setIfInBounds_toArray, List.set_cons_succ, List.set_cons_zero]
                      refine HeadW.takeA 22 (v := undef) rfl (by kernel_rfl) rfl (by decide) (fun _ _ _ hL => seqB_ready hL.1) (by kernel_rfl) (by kernel_rfl) (fun _ _ _ h => h) hSC7 (.inr ⟨by kernel_rfl, rfl⟩) ?_
                      simp only [Act.put]
                      refine HeadW.takeA 23 (v := undef) rfl (by kernel_rfl) rfl (by decide) (fun _ _ _ hL => seqB_ready hL.1) (by kernel_rfl) (by kernel_rfl) (fun _ _ _ h => h) hSC7 (.inr ⟨by kernel_rfl, rfl⟩) ?_
                      simp only [Act.put]
                      refine HeadW.takeA 24 (v := undef) rfl (by kernel_rfl) rfl (by decide) (fun _ _ _ hL => seqB_ready hL.1) (by kernel_rfl) (by kernel_rfl) (fun _ _ _ h => h) hSC7 (.inr ⟨by kernel_rfl, rfl⟩) ?_
                      simp only [Act.put]
                      try simp only [List.getElem_toArray, List.getElem_cons_succ, List.getElem_cons_zero, List.setIfInBounds_toArray, List.set_cons_succ, List.set_cons_zero]
                      refine HeadW.takeA 25 (v := undef) rfl (by kernel_rfl) rfl (by decide) (fun _ _ _ hL => seqB_ready hL.1) (by kernel_rfl) (by kernel_rfl) (fun _ _ _ h => h) hSC7 (.inr ⟨by kernel_rfl, rfl⟩) ?_
                      simp only [Act.put]
                      refine HeadW.takeA 26 (v := undef) rfl (by kernel_rfl) rfl (by decide) (fun _ _ _ hL => seqB_ready hL.1) (by kernel_rfl) (by kernel_rfl) (fun _ _ _ h => h) hSC7 (.inr ⟨by kernel_rfl, rfl⟩) ?_
                      simp only [Act.put]
                      refine HeadW.takeA 27 (v := undef) rfl (by kernel_rfl) rfl (by decide) (fun _ _ _ hL => seqB_ready hL.1) (by kernel_rfl) (by kernel_rfl) (fun _ _ _ h => h) hSC7 (.inr ⟨by kernel_rfl, rfl⟩) ?_
                      simp only [Act.put]
                      try simp only [List.getElem_toArray, List.getElem_cons_succ, List.getElem_cons_zero, List.setIfInBounds_toArray, List.set_cons_succ, List.set_cons_zero]
                      refine HeadW.takeA 28 (v := undef) rfl (by kernel_rfl) rfl (by decide) (fun _ _ _ hL => seqB_ready hL.1) (by kernel_rfl) (by kernel_rfl) (fun _ _ _ h => h) hSC7 (.inr ⟨by kernel_rfl, rfl⟩) ?_
                      simp only [Act.put]
                      refine HeadW.takeA 29 (v := undef) rfl (by kernel_rfl) rfl (by decide) (fun _ _ _ hL => seqB_ready hL.1) (by kernel_rfl) (by kernel_rfl) (fun _ _ _ h => h) hSC7 (.inr ⟨by kernel_rfl, rfl⟩) ?_
                      simp only [Act.put]
                      refine HeadW.takeA 30 (v := undef) rfl (by kernel_rfl) rfl (by decide) (fun _ _ _ hL => seqB_ready hL.1) (by kernel_rfl) (by kernel_rfl) (fun _ _ _ h => h) hSC7 (.inr ⟨by kernel_rfl, rfl⟩) ?_
                      simp only [Act.put]
                      try simp only [List.getElem_toArray, List.getElem_cons_succ, List.getElem_cons_zero, List.setIfInBounds_toArray, List.set_cons_succ, List.set_cons_zero]
                      refine HeadW.takeA 31 (v := .bool false) rfl (by kernel_rfl) rfl (by decide) (fun _ _ _ hL => seqB_ready hL.1) (by kernel_rfl) (by kernel_rfl) (fun _ _ _ h => h) hSC7 (.inl ⟨by kernel_rfl, by intro w hSw; rw [HSd.out] at hSw; obtain ⟨⟨e0, l0⟩, ⟨e1, e2, e3, l1⟩, ⟨e4, e5, l2⟩, ⟨e6, l3⟩, ⟨e7, l4⟩⟩ := hSw; go_simp⟩) ?_
                      simp only [Act.put]
                      refine HeadW.takeA 32 (v := .bool false) rfl (by kernel_rfl) rfl (by decide) (fun _ _ _ hL => seqB_ready hL.1) (by kernel_rfl) (by kernel_rfl) (fun _ _ _ h => h) hSC7 (.inl ⟨by kernel_rfl, by intro w hSw; rw [HSd.out] at hSw; obtain ⟨⟨e0, l0⟩, ⟨e1, e2, e3, l1⟩, ⟨e4, e5, l2⟩, ⟨e6, l3⟩, ⟨e7, l4⟩⟩ := hSw; go_simp⟩) ?_
                      simp only [Act.put]
                      try simp only [List.getElem_toArray, List.getElem_cons_succ, List.getElem_cons_zero, List.setIfInBounds_toArray, List.set_cons_succ, List.set_cons_zero]
                      refine fun hInv => ⟨by kernel_rfl, ?_⟩
                      clear hInv
                      simp only [List.drop_succ_cons, List.drop_zero]
                      clear HSC HSd hSC7
                      clear SC
                      go_wp2_with fail
                      go_meet
                      case rel => exact ⟨false, rfl, Lib.hid ⟨(fun e => by cases e), (fun e => absurd e HN.out)⟩, HB67.out⟩
            case rest =>
            rename World => wc
            obtain ⟨bb, rfl, Hbb, hbc⟩ := hcut
            cases bb with
            | true =>
              have HBc := Lib.hid (HB4.out.trans ((HB46.out.trans (hbc.mono HB46.out.size)).mono HB4.out.size))
              have Hno := Lib.hid (HT.out.none Hx.out hx0 Hi.out (stand_bad HI.out (Hbb.out.1 rfl)))
              go_wp2_with fail
              refine bodyPost_ret (v := .tuple #[.slice none 0 0, .bool false]) ?_ rfl ⟨HB1.out.trans (HBc.out.mono HB1.out.size), .inr ⟨rfl, Hno.out⟩⟩
              simp [results, Try.results28, go_sem]
            | false =>
              have HNb := Lib.hid (show ¬ badT p.plain f v ⟨op, aa⟩ x from fun h => by cases Hbb.out.2 h)
              have hTA6c := HTA6.out.below hbc
              have hS6c := HS6.out.below hbc HS6.out.lt
              have HB4c := Lib.hid (HB46.out.trans (hbc.mono HB46.out.size))
              have x0c : wc.cell? ⟨gx, 0, none⟩ = some (.int .i64 p.mem) := hTA6c.x.cell 0
              have x1c : wc.cell? ⟨gx, 1, none⟩ = some (.slice p.AD p.data.length p.cD) := hTA6c.x.cell 1
              have x2c : wc.cell? ⟨gx, 2, none⟩ = some (.slice (some ⟨b0, off0, none⟩) p.fs.length p.cF) := hTA6c.x.cell 2
              have xlc := hTA6c.x.lt
              have s0c : wc.cell? ⟨gP, 0, none⟩ = some (.int .i64 (f : Int)) := hS6c.cell 0
              have s1c : wc.cell? ⟨gP, 1, none⟩ = some (.int .i64 (v : Int)) := hS6c.cell 1
              have slc := hS6c.lt
              have HNx := Lib.hid (show Calls Try.prog 18 #[.agg #[.int .i64 p.mem, .slice p.AD p.data.length p.cD, .slice (some ⟨b0, off0, none⟩) p.fs.length p.cF], .agg #[.int .i64 (f : Int), .int .i64 (v : Int)]] wc (IntsPost wc (nextL p.plain f v)) from by rw [← Hpv.out]; exact next_any p f v wc hTA6c.prg)
              have HTAc := Lib.hid hTA6c
              clear hTA6c hS6c hbc hx6 hl6 x06 x16 x26 xl6 s06 s16 sl6 o06 o16 ol6 rs6 rl6 HWn HW HTA6 HS6 HB46
              go_wp2_with fail
              refine HNx.out.mono ?_
              rintro e w8 ⟨A8, c8, rfl, ho8, hb8⟩
              obtain ⟨m8, hm8⟩ : ∃ m, m = (nextL p.plain f v).length := ⟨_, rfl⟩
              have hm2 : m8 ≤ 2 := by rw [hm8]; exact nextL_len _ _ _
              rw [← hm8]
              have Hm8 := Lib.hid hm8
              have Ho8 := Lib.hid ho8
              have hTA8 := HTAc.out.below hb8
              obtain ⟨i0, i1, il⟩ : w8.cell? ⟨b1, off1 + v * 2, none⟩ = some (.int .i64 op) ∧ w8.cell? ⟨b1, off1 + v * 2 + 1, none⟩ = some (.int .i64 aa) ∧ b1 < w8.heap.size := hTA8.ins v _ Hi2.out
              have HTA8 := Lib.hid hTA8
              have HB48 := Lib.hid (HB4c.out.trans (hb8.mono HB4c.out.size))
              have Hzc := Lib.hid (show w4.heap.size ≤ wc.heap.size ∧ wc.heap.size ≤ w8.heap.size from ⟨HB4c.out.size, hb8.size⟩)
              obtain ⟨fb, hfb⟩ : ∃ b : Bool, (b = true ↔ fallsT p.plain f v ⟨op, aa⟩) := by
                by_cases h : fallsT p.plain f v ⟨op, aa⟩
                · exact ⟨true, fun _ => h, fun _ => rfl⟩
                · exact ⟨false, (fun e => by cases e), (fun e => absurd e h)⟩
              have Hfb := Lib.hid hfb
              clear hm8 ho8 hb8 hTA8 hfb x0c x1c x2c xlc s0c s1c slc HNx HB4c
              go_upto_region 23 with (fail)
              go_cut [20] from 130 to 198 (fun s wx => s = .bool fb ∧ Below w8.heap.size w8 wx)
              case first =>
                as_aux_lemma =>
                have HEn := Lib.hid (ends13_any ⟨op, aa⟩ w8)
                obtain ⟨en, hen⟩ : ∃ x, x = endsI ⟨op, aa⟩ := ⟨_, rfl⟩
                rw [← hen] at HEn
                have Hen := Lib.hid hen
                clear hen
                cases en with
                | true =>
                  obtain rfl : fb = false := by
                    cases fb with
                    | false => rfl
                    | true =>
                      have h1 := (Hfb.out.1 rfl).1
                      rw [← Hen.out] at h1
                      cases h1
                  go_wp2_with fail
                  refine HEn.out.mono ?_
                  rintro e w9 ⟨rfl, hb9⟩
                  have HB9 := Lib.hid hb9
                  clear hb9
                  go_wp2_with fail
                  go_meet
                  case rel => exact ⟨rfl, HB9.out⟩
                | false =>
                  by_cases h14 : op = 14
                  · subst h14
                    obtain rfl : fb = false := by
                      cases fb with
                      | false => rfl
                      | true => exact absurd rfl (Hfb.out.1 rfl).2.1
                    go_wp2_with fail
                    refine HEn.out.mono ?_
                    rintro e w9 ⟨rfl, hb9⟩
                    have i09 : w9.cell? ⟨b1, off1 + v * 2, none⟩ = some (.int .i64 14) := ((bcell hb9).1 _ _ il).trans i0
                    have il9 : b1 < w9.heap.size := Nat.lt_of_lt_of_le il hb9.size
                    have HB9 := Lib.hid hb9
                    clear hb9 i0 i1 il
                    go_wp2_with fail
                    go_meet
                    case rel => exact ⟨rfl, HB9.out⟩
                  · have h14a : (op == 14) = false := by simpa using h14
                    have h14b : (op != 14) = true := by simpa using h14
                    by_cases hvl : (N : Int) ≤ (v : Int) + 1
                    · obtain rfl : fb = true := Hfb.out.2 ⟨Hen.out.symm, h14, by rw [← HNl.out]; exact hvl⟩
                      go_wp2_with fail
                      refine HEn.out.mono ?_
                      rintro e w9 ⟨rfl, hb9⟩
                      have i09 : w9.cell? ⟨b1, off1 + v * 2, none⟩ = some (.int .i64 op) := ((bcell hb9).1 _ _ il).trans i0
                      have il9 : b1 < w9.heap.size := Nat.lt_of_lt_of_le il hb9.size
                      have HB9 := Lib.hid hb9
                      clear hb9 i0 i1 il
                      go_wp2_with fail
                      go_meet
                      case rel => exact ⟨rfl, HB9.out⟩
                    · obtain rfl : fb = false := by
                        cases fb with
                        | false => rfl
                        | true =>
                          have h1 := (Hfb.out.1 rfl).2.2
                          rw [← HNl.out] at h1
                          exact absurd h1 hvl
                      have hvd : decide ((N : Int) ≤ (v : Int) + 1) = false := decide_eq_false hvl
                      go_wp2_with fail
                      refine HEn.out.mono ?_
                      rintro e w9 ⟨rfl, hb9⟩
                      have i09 : w9.cell? ⟨b1, off1 + v * 2, none⟩ = some (.int .i64 op) := ((bcell hb9).1 _ _ il).trans i0
                      have il9 : b1 < w9.heap.size := Nat.lt_of_lt_of_le il hb9.size
                      have HB9 := Lib.hid hb9
                      clear hb9 i0 i1 il
                      go_wp2_with fail
                      go_meet
                      case rel => exact ⟨rfl, HB9.out⟩
              case rest =>
              rename World => w9
              obtain ⟨rfl, hb9⟩ := hcut
              clear i0 i1 il
              have HB49 := Lib.hid (HB48.out.trans (hb9.mono HB48.out.size))
              have HB19 := Lib.hid (HB4.out.trans (HB49.out.mono HB4.out.size))
              have HTA9 := Lib.hid (HTA8.out.below hb9)
              have Ho9 := Lib.hid (Own.below Ho8.out hb9 (Nat.le_refl _))
              have HR9 := Lib.hid (Own.below HR4.out HB49.out (Nat.le_refl _))
              have Hz9 := Lib.hid (show wc.heap.size ≤ w9.heap.size ∧ w4.heap.size ≤ wc.heap.size from ⟨Nat.le_trans Hzc.out.2 hb9.size, Hzc.out.1⟩)
              clear hb9 Ho8 HTA8 HTAc HB48 Hzc
              cases fb with
              | true =>
                have Hno := Lib.hid (HT.out.none Hx.out hx0 Hi.out (stand_falls (Hfb.out.1 rfl)))
                go_wp2_with fail
                refine bodyPost_ret (v := .tuple #[.slice none 0 0, .bool false]) ?_ rfl ⟨HB1.out.trans (HB19.out.mono HB1.out.size), .inr ⟨rfl, Hno.out⟩⟩
                simp [results, Try.results28, go_sem]
              | false =>
                have hst := stand_fine Hjmp.out HNb.out (fun h => by cases Hfb.out.2 h)
                rw [← Hbh.out] at hst
                obtain ⟨-, hb0', hb256, hall, -⟩ := stand_ok HI.out hx0 hst
                have hnx := go_next Hi.out HI.out.goes hall
                have hnF := go_nxF Hi.out HI.out.goes hall
                have Hst := Lib.hid hst
                have Hnx := Lib.hid hnx
                have HnF := Lib.hid hnF
                have Hm := Lib.hid (show m8 = (nxF p.plain f v).length from by rw [Hm8.out]; unfold nxF; rw [List.length_map])
                clear hst hall hnx hnF
                go_wp2_with fail
                go_loopw [11, 21] (fun rv qv wz => ∃ (q : Nat) (h2 rw2 : List Int) (A2 : Option Addr) (n2 c2 : Nat), q ≤ m8 ∧ qv = .int .i64 (q : Int) ∧ rv = .slice A2 n2 c2 ∧ Hid (TMid p.plain f (· = v) h2 rw2 ∧ h2[v]? = some x ∧ ∀ (t : Nat) u, t < q → (nxF p.plain f v)[t]? = some u → h2[u]? = some bh) ∧
                  OwnI wz 0 (some ⟨gH, 0, none⟩) N N h2 ∧ OwnI wz gR0 A2 n2 c2 rw2 ∧ Hid (rw2.length = n2 ∧ blanks h2 + n2 = blanks h + L ∧ ∀ b, A2.map (·.block) = some b → b < wc.heap.size ∨ w9.heap.size ≤ b) ∧ Only (fun b => b = gH ∨ (gR0 ≤ b ∧ b < wc.heap.size)) w9 wz) (fun _ qv _ => m8 - (intOf qv).toNat)
                case atStart =>
                  refine ⟨0, h, _, some ⟨gR, 0, none⟩, L, c, Nat.zero_le _, rfl, rfl, Lib.hid ⟨HT2.out, Hx.out, fun t u ht => by omega⟩, HTA9.out.own, HR9.out, Lib.hid ⟨?_, rfl, fun b hb => ?_⟩, Only.refl _ _⟩
                  · have h1 := Hnl.out
                    rw [List.length_take, List.length_set]
                    omega
                  · have e1 := Option.some.inj hb
                    change gR = b at e1
                    have h1 := HgRw.out.2
                    have h2 := Hz9.out.2
                    exact .inl (by omega)
                case round =>
                  as_aux_lemma =>
                  rename World => wz
                  obtain ⟨q, h2, rw2, A2, n2, c2, hq, rfl, rfl, HM, hH2, hR2, Hmu2, hO⟩ := hrel
                  have HH2 := Lib.hid hH2
                  have HR2 := Lib.hid hR2
                  have HO := Lib.hid hO
                  clear hH2 hR2 hO
                  by_cases hlt3 : q < m8
                  · have g7 : (q : Int) < (m8 : Int) := by omega
                    have hkn : q < (nxF p.plain f v).length := by rw [← Hm.out]; exact hlt3
                    have hkn1 : q < (nextL p.plain f v).length := by rw [← Hm8.out]; exact hlt3
                    obtain ⟨u, hu⟩ : ∃ u, u = (nxF p.plain f v)[q] := ⟨_, rfl⟩
                    have hum : u ∈ nxF p.plain f v := by rw [hu]; exact List.getElem_mem hkn
                    have huN : u < N := by rw [HNl.out]; exact nxF_lt hum
                    have hu1 : (nextL p.plain f v)[q] = (u : Int) := by
                      have h0 : 0 ≤ (nextL p.plain f v)[q] := by
                        have h1 : (nextL p.plain f v)[q] ∈ goesL ⟨op, aa⟩ v := by rw [← Hnx.out]; exact List.getElem_mem hkn1
                        exact HI.out.goes _ h1
                      have h2 : (nxF p.plain f v)[q]? = some ((nextL p.plain f v)[q]).toNat := by unfold nxF; rw [List.getElem?_map, List.getElem?_eq_getElem hkn1]; rfl
                      have h3 := (List.getElem?_eq_some_iff.1 h2).2
                      rw [hu, h3]
                      omega
                    have hrow : RV wz A8 ((nextL p.plain f v).map iv) := (RV.of_own Ho9.out).only HO.out fun _ b o e e2 => by
                      have h1 := (Own.row Ho9.out b (by rw [e]; rfl)).1
                      have h3 := HgR.out.1
                      have h4 := HgRw.out
                      have h5 := Hz9.out
                      rcases e2 with e2 | e2 <;> omega
                    obtain ⟨rb, ro, rfl, hrl, hrc⟩ := hrow.at_ (by rw [List.length_map]; omega)
                    have r0 := hrc q (.int .i64 (u : Int)) (by rw [List.getElem?_map, List.getElem?_eq_getElem hkn1, hu1]; rfl)
                    have hul : u < h2.length := by rw [HM.out.1.len, ← HNl.out]; exact huN
                    have c0 := OwnI.at_ HH2.out u hul
                    obtain ⟨cf, cl⟩ := OwnI.room HH2.out u hul
                    obtain ⟨z, hz⟩ : ∃ z, z = h2[u] := ⟨_, rfl⟩
                    rw [← hz] at c0
                    have Hz := Lib.hid (show h2[u]? = some z from by rw [hz]; exact List.getElem?_eq_getElem hul)
                    have Hum := Lib.hid (show u ∈ goN ⟨op, aa⟩ v from by rw [← HnF.out]; exact hum)
                    have HuK := Lib.hid (show (nxF p.plain f v)[q]? = some u from by rw [hu]; exact List.getElem?_eq_getElem hkn)
                    have huN2 : (u : Int) < (N : Int) := by omega
                    clear hz hrow hrc hu1 hum hu hkn hkn1
                    by_cases hz0 : z < 0
                    · have hz1 : ¬ 0 ≤ z := by omega
                      obtain ⟨wA, hwA⟩ : ∃ w', w' = wz.setCell ⟨gH, u, none⟩ (.int .i64 bh) := ⟨_, rfl⟩
                      have hHA : OwnI wA 0 (some ⟨gH, 0, none⟩) N N (h2.set u bh) := by rw [hwA]; exact OwnI.put HH2.out u bh
                      have hRA : OwnI wA gR0 A2 n2 c2 rw2 := by
                        rw [hwA]
                        exact Own.fars HR2.out (fun e => by have h1 := (Own.row HR2.out _ e).1; have h2 := HgR.out.1; omega) _
                      have hOA : Only (fun b => b = gH ∨ (gR0 ≤ b ∧ b < wc.heap.size)) w9 wA := by rw [hwA]; exact HO.out.setCell (p := ⟨gH, u, none⟩) (.inl (.inl rfl)) _
                      have r0A : wA.cell? ⟨rb, ro + q, none⟩ = some (.int .i64 (u : Int)) := by
                        have h1 := (Own.row Ho9.out rb rfl).1
                        have h3 := HgR.out.1
                        have h4 := HgRw.out
                        have h5 := Hz9.out
                        rw [hwA]
                        exact ((Only.refl (fun b => b = gH) wz).setCell (p := ⟨gH, u, none⟩) (.inl rfl) (.int .i64 bh)).cell (p := ⟨rb, ro + q, none⟩) hrl (fun e => by change rb = gH at e; omega) |>.trans r0
                      have hrlA : rb < wA.heap.size := by rw [hwA]; simpa using hrl
                      have hzA : gR0 ≤ wA.heap.size := by have h1 := hOA.size; have h2 := HgRw.out; have h3 := Hz9.out; omega
                      have HHA := Lib.hid hHA
                      have HRA := Lib.hid hRA
                      have HOA := Lib.hid hOA
                      have HwA := Lib.hid hwA
                      have hn2 : n2 ≤ 10000 := by
                        have h1 := Hmu2.out.2.1
                        have h2 := Hmu.out.2
                        omega
                      clear hHA hRA hOA hwA
                      go_upto_region 33 with (fail)
                      rw [← HwA.out]
                      clear HwA r0 hrl c0 cf cl
                      go_wp2_with (refine wpList_at 198 rfl ?_; refine wp_stop ?_)
                      try refine ⟨?_⟩
                      refine wpList_push1A rfl (.tmp 192) (.tmp 197) eInt rfl rfl HRA.out rfl rfl (by unfold maxLen; omega) (by omega) hzA ?_
                      intro A6 c6 wB hownB hOB hAB
                      have HRB := Lib.hid (show OwnI wB gR0 A6 (n2 + 1) c6 (rw2 ++ [(u : Int)]) from by
                        have h1 := Hmu2.out.1
                        unfold OwnI
                        rw [List.map_append]
                        exact hownB)
                      have HHB := Lib.hid (Own.only HHA.out hOB (fun b o e e2 => by
                        have e3 := (Option.some.inj e)
                        injection e3 with e3
                        have h1 := (Own.row HRA.out b e2).1
                        have h2 := HgR.out.1
                        omega))
                      have HOB := Lib.hid (HOA.out.more hOB fun b hb e2 => by
                        have h1 := (Own.row HRA.out b e2).1
                        have h2 := Hmu2.out.2.2 b e2
                        exact .inr ⟨h1, by omega⟩)
                      have HAB := Lib.hid (show ∀ b, A6.map (·.block) = some b → b < wc.heap.size ∨ w9.heap.size ≤ b from fun b hb => by
                        rcases hAB b hb with e2 | e2
                        · exact Hmu2.out.2.2 b e2
                        · have h1 := HOA.out.size
                          exact .inr (by omega))
                      clear hownB hOB hAB r0A hrlA hzA
                      go_wp2_with fail
                      refine ⟨⟨q + 1, h2.set u bh, rw2 ++ [(u : Int)], A6, n2 + 1, c6, by omega, by first | rfl | go_num, rfl, Lib.hid ⟨?_, ?_, fun t y ht hy => ?_⟩, HHB.out, HRB.out, Lib.hid ⟨?_, ?_, HAB.out⟩, HOB.out⟩, by simp [intOf]; omega⟩
                      · exact HM.out.1.mark Hg.out.chk HM.out.2.1 hx0 Hi.out Hst.out Hum.out Hz.out hz0
                      · have hne : u ≠ v := fun e => by
                          have h1 := Hz.out
                          rw [e, HM.out.2.1] at h1
                          have := Option.some.inj h1
                          omega
                        rw [List.getElem?_set_ne hne]
                        exact HM.out.2.1
                      · by_cases e : u = y
                        · rw [← e]
                          exact List.getElem?_set_self hul
                        · rw [List.getElem?_set_ne e]
                          by_cases e2 : t = q
                          · subst e2
                            rw [HuK.out] at hy
                            exact absurd (Option.some.inj hy) e
                          · exact HM.out.2.2 t y (by omega) hy
                      · rw [List.length_append, Hmu2.out.1]; rfl
                      · have hzm : z = -1 := by have := (HM.out.1.bnd u z Hz.out).1; omega
                        have h1 := countP_set (fun x : Int => decide (x = -1)) h2 u z bh Hz.out
                        have h2' := Hmu2.out.2.1
                        rw [if_pos (by simp [hzm]), if_neg (by simp; omega)] at h1
                        unfold blanks at h2' ⊢
                        omega
                    · have hz1 : 0 ≤ z := by omega
                      by_cases hzb : z = bh
                      · have hzb1 : (z == bh) = true := by simpa using hzb
                        have hzb2 : (z != bh) = false := by simpa using hzb
                        have HH3 := HH2
                        have HR3 := HR2
                        have HO3 := HO
                        have Hzb := Lib.hid hzb
                        clear hzb
                        go_wp2_with fail
                        refine ⟨⟨q + 1, h2, rw2, A2, n2, c2, by omega, by first | rfl | go_num, rfl, Lib.hid ⟨HM.out.1, HM.out.2.1, fun t y ht hy => ?_⟩, HH3.out, HR3.out, Hmu2, HO3.out⟩, by simp [intOf]; omega⟩
                        by_cases e2 : t = q
                        · subst e2
                          rw [HuK.out] at hy
                          have e3 := Option.some.inj hy
                          rw [← e3, Hz.out, Hzb.out]
                        · exact HM.out.2.2 t y (by omega) hy
                      · have hzb1 : (z == bh) = false := by simpa using hzb
                        have hzb2 : (z != bh) = true := by simpa using hzb
                        have Hno := Lib.hid (HM.out.1.unlike HM.out.2.1 hx0 Hi.out Hst.out Hum.out Hz.out hz1 hzb)
                        have HBz := Lib.hid (HB19.out.trans (HO.out.below (B := w1.heap.size) HB19.out.size fun b hb e => by
                          have h1 := HgR.out
                          rcases e with e | ⟨e, -⟩
                          · have h2 := HgH.out; omega
                          · omega))
                        go_wp2_with fail
                        refine bodyPost_ret (v := .tuple #[.slice none 0 0, .bool false]) ?_ rfl ⟨HB1.out.trans (HBz.out.mono HB1.out.size), .inr ⟨rfl, Hno.out⟩⟩
                        simp [results, Try.results28, go_sem]
                  · obtain rfl : q = m8 := by omega
                    have HTn := Lib.hid (HM.out.1.close HM.out.2.1 Hi.out Hst.out (fun u hu => by
                      rw [← HnF.out] at hu
                      obtain ⟨t, ht, hte⟩ := List.getElem_of_mem hu
                      exact HM.out.2.2 t u (by rw [Hm.out]; exact ht) (by rw [← hte]; exact List.getElem?_eq_getElem ht)))
                    have HBz := Lib.hid (HB19.out.trans (HO.out.below (B := w1.heap.size) HB19.out.size fun b hb e => by
                      have h1 := HgR.out
                      rcases e with e | ⟨e, -⟩
                      · have h2 := HgH.out; omega
                      · omega))
                    have HH3 := HH2
                    have HR3 := HR2
                    go_wp2_with fail
                    exact ⟨⟨h2, rw2, A2, n2, c2, m + 1, rfl, by first | rfl | go_num, HTn, HH3.out, HR3.out, Lib.hid ⟨Hmu2.out.1, by have h1 := Hmu2.out.2.1; have h2 := Hmu.out.2; omega⟩, HBz.out⟩, by simp [intOf]; omega⟩
end Go.Proofs.Ytcmpmhlcfalbhaa
