/- The walk of prog's Decode. -/
import Derived.Test.YtadnjfoinmeloaaPrgDd
import Derived.Test.YtadnjfoinmeloaaPrgC
namespace Go.Proofs.Ytadnjfoinmeloaa
open Go.RowKit

theorem PrgOwn.nil (w : World) (base : Nat) : PrgOwn w base ⟨0, none, 0, [], none, 0, []⟩ :=
  ⟨Own.nil _ _ _ _, Own.nil _ _ _ _, (fun _ h => by cases h), (fun _ h => by cases h), by decide, by decide, by simp, by simp, ApartF.nil⟩
theorem drop_all : ∀ l : List PanicEntry, (∀ p ∈ l, p.goexit = false) → l.dropWhile (fun p => !p.goexit) = []
  | [], _ => rfl
  | p :: l, h => by
    rw [List.dropWhile_cons, if_pos (by rw [h p (by simp)]; rfl)]
    exact drop_all l fun q hq => h q (by simp [hq])
def decRes (n : Nat) : Res Prg → Prg × Int
  | .fell f => (noPrg, f)
  | .refused f => (noPrg, f)
  | .ok p a => if a = n then (if checkL p = 0 then (p, 0) else (noPrg, checkL p)) else (noPrg, 13)
theorem decP_res {bs : List UInt8} (h : ¬ 1048576 < bs.length) : decP bs = decRes bs.length (readPrg bs) := by
  unfold decP
  rw [if_neg h]
  cases readPrg bs <;> rfl
def DecPPost (w : World) (r : Prg × Int) (e : Ending) (w' : World) : Prop :=
  ∃ pm : PrgM, pm.plain = r.1 ∧ e = .returned (.tuple #[pm.val, .int .i64 r.2]) ∧ PrgOwn w' w.heap.size pm ∧ Below w.heap.size w w'
theorem decPPost_no {w w' : World} {r : Prg × Int} {F : Int} (hr : r = (noPrg, F)) (hb : Below w.heap.size w w') : DecPPost w r (.returned (.tuple #[.agg #[.int .i64 0, .slice none 0 0, .slice none 0 0], .int .i64 F])) w' := by
  subst hr
  exact ⟨⟨0, none, 0, [], none, 0, []⟩, rfl, rfl, PrgOwn.nil _ _, hb⟩
/-- The two cells that Decode's results lie in, and what region 8 makes of them. -/
theorem res_set {w w1 : World} {pp pe : Nat} {x y z : Value} {f : Int} (hB : Blk w1 pp 25 #[x, y, z]) (hE : Blk w1 pe 28 #[.int .i64 f]) (hne : pp ≠ pe) (hp : w.heap.size ≤ pp) (he : w.heap.size ≤ pe) (hb : Below w.heap.size w w1) (x2 y2 z2 : Value) (f2 : Int) (w2 : World)
    (h2 : w2 = (((w1.setCell ⟨pp, 0, none⟩ x2).setCell ⟨pp, 1, none⟩ y2).setCell ⟨pp, 2, none⟩ z2).setCell ⟨pe, 0, none⟩ (.int .i64 f2)) :
    Blk w2 pp 25 #[x2, y2, z2] ∧ Blk w2 pe 28 #[.int .i64 f2] ∧ Below w.heap.size w w2 ∧ Only (fun b => b = pp ∨ b = pe) w1 w2 := by
  subst h2
  have b1 := hB.set_ 0 x2
  have b2 := Blk.set_ b1 1 y2
  have b3 := Blk.set_ b2 2 z2
  have x3 : Only (fun b => b = pp) w1 (((w1.setCell ⟨pp, 0, none⟩ x2).setCell ⟨pp, 1, none⟩ y2).setCell ⟨pp, 2, none⟩ z2) := (((Only.refl (fun b => b = pp) w1).setCell (p := ⟨pp, 0, none⟩) (.inl rfl) _).setCell (p := ⟨pp, 1, none⟩) (.inl rfl) _).setCell (p := ⟨pp, 2, none⟩) (.inl rfl) _
  have e3 := hE.only x3 (fun e => hne e.symm)
  have e4 := Blk.set_ e3 0 (.int .i64 f2)
  have b4 := Blk.only b3 ((Only.refl (fun b => b = pe) _).setCell (p := ⟨pe, 0, none⟩) (.inl rfl) (.int .i64 f2)) hne
  have x4 : Only (fun b => b = pp ∨ b = pe) w1 ((((w1.setCell ⟨pp, 0, none⟩ x2).setCell ⟨pp, 1, none⟩ y2).setCell ⟨pp, 2, none⟩ z2).setCell ⟨pe, 0, none⟩ (.int .i64 f2)) := (x3.mono fun _ _ e => .inl e).setCell (p := ⟨pe, 0, none⟩) (.inl (.inr rfl)) _
  exact ⟨b4, e4, (((hb.setCell (p := ⟨pp, 0, none⟩) hp _).setCell (p := ⟨pp, 1, none⟩) hp _).setCell (p := ⟨pp, 2, none⟩) hp _).setCell (p := ⟨pe, 0, none⟩) he _, x4⟩
set_option maxRecDepth 100000 in
set_option maxHeartbeats 4000000 in
theorem decodeP_any (A : Option Addr) (c : Nat) (bs : List UInt8) (w : World) (hS : Sl w ⟨A, c, bs⟩) (hl : bs.length ≤ 200000000000000) :
    Calls Try.prog 19 #[.slice A bs.length c] w (DecPPost w (decP bs)) := by
  have hmf : ∀ (fn : Fn) (first cap : Array Value) (w : World), (Instr.makeFunc fn first cap).run Try.prog w = .ok (.func fn first cap) w := fun _ _ _ _ => rfl
  have HS := Lib.hid hS
  clear hS
  by_cases hbig : 1048576 < bs.length
  · have g1 : (1048576 : Int) < (bs.length : Int) := by omega
    have e : decP bs = (noPrg, 2) := by unfold decP; rw [if_pos hbig]
    have HF := Lib.hid (fun w' (hb : Below w.heap.size w w') => decPPost_no e hb)
    clear e
    go_enter_defers Try.func19, Try.ntmps19
    go_wp2_with fail
    refine ⟨.tuple #[.agg #[.int .i64 0, .slice none 0 0, .slice none 0 0], .int .i64 2], ?_, HF.out _ (((Below.refl _ _).alloc (Nat.le_refl _) _).alloc (by simp) _)⟩
    simp [results, Try.results19, go_sem]
  have g1 : ¬ (1048576 : Int) < (bs.length : Int) := by omega
  have hl' : bs.length ≤ 1048576 := by omega
  have hl2 : bs.length ≤ 140737488351232 := by omega
  obtain ⟨w1, hw1⟩ : ∃ w1, w1 = (w.alloc (.cells #[.int .i64 0, .slice none 0 0, .slice none 0 0] 25)).alloc (.cells #[.int .i64 0] 28) := ⟨_, rfl⟩
  have hb1 : Below w.heap.size w w1 := by rw [hw1]; exact ((Below.refl _ _).alloc (Nat.le_refl _) _).alloc (by simp) _
  have hP1 : Blk w1 w.heap.size 25 #[.int .i64 0, .slice none 0 0, .slice none 0 0] := by rw [hw1]; exact (Blk.new w _ _).alloc _
  have hE1 : Blk w1 (w.heap.size + 1) 28 #[.int .i64 0] := by
    rw [hw1]
    have h := Blk.new (w.alloc (.cells #[.int .i64 0, .slice none 0 0, .slice none 0 0] 25)) 28 #[.int .i64 0]
    rw [World.size_alloc] at h
    exact h
  have hz1 : w.heap.size + 2 ≤ w1.heap.size := by have := hE1.lt; omega
  have hsb := HS.out.below hb1
  obtain ⟨R, hR⟩ : ∃ R, R = readPrg bs := ⟨_, rfl⟩
  have hdec : decP bs = decRes bs.length R := by rw [hR]; exact decP_res hbig
  have body : ∀ (g cg : Nat) (Ag : Option Addr) (wx : World), w1.heap.size < g → Below w1.heap.size w1 wx → Rd wx g Ag cg bs 0 false 0 → (∀ b o, Ag = some ⟨b, o, none⟩ → w1.heap.size < b ∧ b < wx.heap.size) →
      Calls Try.prog 40 #[.pointer (some ⟨g, 0, none⟩), .pointer (some ⟨w.heap.size, 0, none⟩)] wx (Dec2Post wx g w.heap.size cg Ag bs R) := fun g cg Ag wx hg hbx hrd hA => by
    rw [hR]
    exact dec2_any g w.heap.size cg Ag bs wx hrd hl' (hP1.below hbx (by omega)) (by omega) (fun b o e => by have := hA b o e; omega)
  clear hR
  by_cases href : ∃ f, R = .refused f
  · obtain ⟨f, hf⟩ := href
    have hread := read_thr ⟨A, c, bs⟩ w1 hsb hl2 40 #[] #[.pointer (some ⟨w.heap.size, 0, none⟩)] (fun b => b = w.heap.size)
      (fun g Ty v wx => Ty = 69 ∧ v = .agg #[.int .i64 f] ∧ ∃ x y z, Blk wx w.heap.size 25 #[x, y, z])
      (fun g' wx => by go_simp)
      (fun g' c' A' wx hg' hbx hrdx hAx => by
        refine (body g' c' A' wx hg' hbx hrdx hAx).mono ?_
        rintro e wy ⟨hO, h⟩
        rcases h with ⟨pm, a, h1, _⟩ | ⟨f2, at_, h0, h1, _⟩ | ⟨f2, at_, h0, h1, he, hrd2, x, y, z, hB⟩
        · rw [hf] at h1; cases h1
        · rw [hf] at h1; cases h1
        · rw [hf] at h1
          injection h1 with h1
          subst h1
          exact ⟨at_, false, 0, _, _, hrd2, ⟨rfl, rfl, x, y, z, hB⟩, hO, ref_other f, [], he, by simp⟩)
      (fun b hb => by omega)
    dsimp only at hread
    have hdn : decP bs = (noPrg, f) := by rw [hdec, hf]; rfl
    have HF := Lib.hid (fun w' (hb : Below w.heap.size w w') => decPPost_no hdn hb)
    have Hread := Lib.hid hread
    have Hb1 := Lib.hid hb1
    have HE1 := Lib.hid hE1
    have Hw1 := Lib.hid hw1
    clear hread hsb body hdec hdn hb1 hE1 hP1 hw1 hf
    go_enter_defers Try.func19, Try.ntmps19
    go_wp2_with fail
    rw [← Hw1.out]
    refine Hread.out.mono ?_
    rintro e w2 ⟨g, wx, Ty, v, hg, ⟨rfl, rfl, x, y, z, hBx⟩, hoth, ⟨old, rfl, hold⟩, hO2x, hO2⟩
    have hB2 := hBx.only hO2x (by omega)
    have hE2 := HE1.out.only hO2 (by omega)
    have hdd := dd1_pan w.heap.size (w.heap.size + 1) f x y z old w2 (by omega) hB2 hE2
    have HB2 := Lib.hid (Hb1.out.trans (hO2.below (by omega) fun p hp e => by omega))
    have Hdd := Lib.hid hdd
    have Hold := Lib.hid hold
    clear hO2x hO2 hB2 hE2 hBx hdd hold Hread hoth
    go_wp2_with fail
    refine leaves_cons (f := 38) (args := #[.pointer (some ⟨w.heap.size, 0, none⟩), .pointer (some ⟨w.heap.size + 1, 0, none⟩)]) (by simp) (by simp [go_sem]) ?_
    refine Hdd.out.mono ?_
    rintro e u' w5 ⟨rfl, rfl, hC5, hE5, hO5⟩
    have hzw := HB2.out.size
    have hB5 := HB2.out.trans (hO5.below hzw fun p hp e => by omega)
    have c0 : w5.cell? ⟨w.heap.size, 0, none⟩ = some (.int .i64 0) := hC5.cell 0
    have c1 : w5.cell? ⟨w.heap.size, 1, none⟩ = some (.slice none 0 0) := hC5.cell 1
    have c2 : w5.cell? ⟨w.heap.size, 2, none⟩ = some (.slice none 0 0) := hC5.cell 2
    have c3 : w5.cell? ⟨w.heap.size + 1, 0, none⟩ = some (.int .i64 f) := hE5.cell 0
    have hpl5 := hC5.lt
    have hpl6 := hE5.lt
    have hset : settle (.panicking ({ refusedE f with recovered := true } :: old)) = .returning := by
      have hd := drop_all old Hold.out
      unfold settle refusedE
      dsimp only
      rw [hd]
    dsimp only
    rw [hset]
    refine ⟨.tuple #[.agg #[.int .i64 0, .slice none 0 0, .slice none 0 0], .int .i64 f], ?_, HF.out _ hB5⟩
    simp [results, Try.results19, go_sem, c0, c1, c2, c3]
  have hread := read_any ⟨A, c, bs⟩ w1 hsb hl2 40 #[] #[.pointer (some ⟨w.heap.size, 0, none⟩)] (fun b => b = w.heap.size)
    (fun g at_ o f wy => (∃ pm base, R = .ok pm.plain at_ ∧ f = 0 ∧ at_ ≤ bs.length ∧ g < base ∧ w1.heap.size < base ∧ Blk wy w.heap.size 25 #[.int .i64 pm.mem, .slice pm.AD pm.data.length pm.cD, .slice pm.AF pm.fs.length pm.cF] ∧ PrgOwn wy base pm) ∨ (f ≠ 0 ∧ R = .fell f ∧ ∃ x y z, Blk wy w.heap.size 25 #[x, y, z]))
    (fun g' wx => by go_simp)
    (fun g' c' A' wx hg' hbx hrdx hAx => by
      have hgl := hrdx.blk.lt
      have hzx := hbx.size
      refine (body g' c' A' wx hg' hbx hrdx hAx).mono ?_
      rintro e wy ⟨hO, h⟩
      rcases h with ⟨pm, a, h1, rfl, hrd2, hB, hown⟩ | ⟨f2, at_, h0, h1, rfl, hrd2, x, y, z, hB⟩ | ⟨f2, at_, h0, h1, _⟩
      · exact ⟨a, false, 0, hrd2, .inl ⟨pm, wx.heap.size, h1, rfl, hrd2.le, hgl, by omega, hB, hown⟩, hO, .inl rfl⟩
      · exact ⟨at_, true, f2, hrd2, .inr ⟨h0, h1, x, y, z, hB⟩, hO, .inr ⟨rfl, h0⟩⟩
      · exact absurd ⟨f2, h1⟩ href)
    (fun b hb => by omega)
  dsimp only at hread
  have Hread := Lib.hid hread
  have Hb1 := Lib.hid hb1
  have HE1 := Lib.hid hE1
  have Hw1 := Lib.hid hw1
  have Hdec := Lib.hid hdec
  clear hread hsb body hdec hb1 hE1 hP1 hw1 href
  go_enter_defers Try.func19, Try.ntmps19
  go_wp2_with fail
  rw [← Hw1.out]
  refine Hread.out.mono ?_
  rintro e w2 ⟨g, at_, o, f, wx, hg, hT, rfl, hO1, hO2⟩
  have hE2 := HE1.out.only hO2 (by omega)
  have hz12 := hO2.size
  have HB2 := Lib.hid (Hb1.out.trans (hO2.below (by omega) fun p hp e => by omega))
  obtain ⟨F, hF⟩ : ∃ F, F = readE f at_ bs.length := ⟨_, rfl⟩
  rw [← hF]
  have hT2 : (∃ pm, R = .ok pm.plain bs.length ∧ F = 0 ∧ Blk w2 w.heap.size 25 #[.int .i64 pm.mem, .slice pm.AD pm.data.length pm.cD, .slice pm.AF pm.fs.length pm.cF] ∧ PrgOwn w2 (w.heap.size + 2) pm) ∨ (F ≠ 0 ∧ decP bs = (noPrg, F) ∧ ∃ x y z, Blk w2 w.heap.size 25 #[x, y, z]) := by
    rcases hT with ⟨pm, base, h1, rfl, hle, hgb, hwb, hB, hown⟩ | ⟨h0, h1, x, y, z, hB⟩
    · have hBl := hB.lt
      have hB2 := hB.only hO1 (by omega)
      have hown2 := (hown.only hO1 (fun b h1 h2 h => by omega)).mono (base' := w.heap.size + 2) (by omega)
      unfold readE at hF
      rw [if_neg (by simp)] at hF
      by_cases hlt : at_ < bs.length
      · rw [if_pos hlt] at hF
        refine .inr ⟨by omega, ?_, _, _, _, hB2⟩
        rw [Hdec.out, h1, hF]
        exact if_neg (by omega)
      · rw [if_neg hlt] at hF
        have hea : at_ = bs.length := by omega
        subst hF
        rw [hea] at h1
        exact .inl ⟨pm, h1, rfl, hB2, hown2⟩
    · unfold readE at hF
      rw [if_pos h0] at hF
      subst hF
      refine .inr ⟨h0, by rw [Hdec.out, h1]; rfl, x, y, z, hB.only hO1 (by omega)⟩
  clear hT hO1 hO2 hF Hb1 HE1 Hread
  have e0 : w2.cell? ⟨w.heap.size + 1, 0, none⟩ = some (.int .i64 0) := hE2.cell 0
  have fe := hE2.frozen 0
  have hel := hE2.lt
  have hpel : w.heap.size < w2.heap.size := by omega
  have HE2 := Lib.hid hE2
  clear hE2
  rcases hT2 with ⟨pm, hRp, rfl, hB2, hown⟩ | ⟨hF0, hdn, x, y, z, hB2⟩
  · have hB3 := hB2.only (Only.setCell (S := fun b => b = w.heap.size + 1) (p := ⟨w.heap.size + 1, 0, none⟩) (Only.refl _ w2) (.inl rfl) (.int .i64 0)) (by omega)
    have hE3 := Blk.set_ HE2.out 0 (.int .i64 0)
    have hown3 := hown.only (Only.setCell (S := fun b => b = w.heap.size + 1) (p := ⟨w.heap.size + 1, 0, none⟩) (Only.refl _ w2) (.inl rfl) (.int .i64 0)) (fun b h1 h2 h => by omega)
    have hb3 := HB2.out.setCell (p := ⟨w.heap.size + 1, 0, none⟩) (Nat.le_succ _) (.int .i64 0)
    obtain ⟨w3, hw3⟩ : ∃ w3, w3 = w2.setCell ⟨w.heap.size + 1, 0, none⟩ (.int .i64 0) := ⟨_, rfl⟩
    rw [← hw3] at hB3 hE3 hown3 hb3
    have hck := check_any pm w3 hown3.at_
    have p0 : w3.cell? ⟨w.heap.size, 0, none⟩ = some (.int .i64 pm.mem) := hB3.cell 0
    have p1 : w3.cell? ⟨w.heap.size, 1, none⟩ = some (.slice pm.AD pm.data.length pm.cD) := hB3.cell 1
    have p2 : w3.cell? ⟨w.heap.size, 2, none⟩ = some (.slice pm.AF pm.fs.length pm.cF) := hB3.cell 2
    have e3 : w3.cell? ⟨w.heap.size + 1, 0, none⟩ = some (.int .i64 0) := hE3.cell 0
    have fe3 := hE3.frozen 0
    have hel3 := hE3.lt
    have hpl3 := hB3.lt
    have hz3 : w.heap.size + 2 ≤ w3.heap.size := by omega
    have HB3 := Lib.hid hB3
    have HE3 := Lib.hid hE3
    have Hown3 := Lib.hid hown3
    have Hb3 := Lib.hid hb3
    have Hck := Lib.hid hck
    have Hw3 := Lib.hid hw3
    clear hB2 hown hB3 hE3 hown3 hb3 hck hw3
    go_wp2_with (refine wpList_at 14 rfl ?_; refine wp_stop ?_)
    refine ⟨?_⟩
    rw [← Hw3.out]
    obtain ⟨F, hF⟩ : ∃ F, F = checkL pm.plain := ⟨_, rfl⟩
    rw [← hF] at Hck
    have hdn0 : decP bs = if F = 0 then (pm.plain, 0) else (noPrg, F) := by rw [Hdec.out, hRp, hF]; exact if_pos rfl
    have Hdn0 := Lib.hid hdn0
    clear hRp hF hdn0 e0 fe hel hpel
    go_wp2_with fail
    refine Hck.out.mono ?_
    rintro e w4 ⟨rfl, hb4⟩
    have HB4 := Lib.hid (HB3.out.below hb4 hpl3)
    have HE4 := Lib.hid (HE3.out.below hb4 hel3)
    have Hown4 := Lib.hid (Hown3.out.below hb4)
    have Hb4 := Lib.hid (Hb3.out.trans (hb4.mono Hb3.out.size))
    have hz4 := hb4.size
    clear p0 p1 p2 e3 fe3 hel3 hpl3 hb4 HB3 HE3 Hown3 Hb3 Hck Hw3 HE2 HB2
    have e4 : w4.cell? ⟨w.heap.size + 1, 0, none⟩ = some (.int .i64 0) := HE4.out.cell 0
    have fe4 := HE4.out.frozen 0
    have hel4 := HE4.out.lt
    have hO5 := Only.setCell (S := fun b => b = w.heap.size + 1) (p := ⟨w.heap.size + 1, 0, none⟩) (Only.refl _ w4) (.inl rfl) (.int .i64 F)
    have HB5 := Lib.hid (HB4.out.only hO5 (by omega))
    have HE5 : Hid (Blk (w4.setCell ⟨w.heap.size + 1, 0, none⟩ (.int .i64 F)) (w.heap.size + 1) 28 #[.int .i64 F]) := Lib.hid (Blk.set_ HE4.out 0 (.int .i64 F))
    have Hown5 := Lib.hid (Hown4.out.only hO5 (fun b h1 h2 h => by omega))
    have Hb5 := Lib.hid (Hb4.out.setCell (p := ⟨w.heap.size + 1, 0, none⟩) (Nat.le_succ _) (.int .i64 F))
    clear hO5
    by_cases hF0 : F = 0
    · subst hF0
      have hdn := Hdn0.out
      rw [if_pos rfl] at hdn
      have Hdn := Lib.hid hdn
      clear hdn Hdn0
      go_wp2_with (refine wpList_at 16 rfl ?_; refine wp_stop ?_)
      refine ⟨?_⟩
      generalize hw5 : w4.setCell ⟨w.heap.size + 1, 0, none⟩ (.int .i64 0) = w5 at *
      clear hw5 e4 fe4 hel4 HB4 HE4 Hown4 Hb4
      have r0 : w5.cell? ⟨w.heap.size, 0, none⟩ = some (.int .i64 pm.mem) := HB5.out.cell 0
      have r1 : w5.cell? ⟨w.heap.size, 1, none⟩ = some (.slice pm.AD pm.data.length pm.cD) := HB5.out.cell 1
      have r2 : w5.cell? ⟨w.heap.size, 2, none⟩ = some (.slice pm.AF pm.fs.length pm.cF) := HB5.out.cell 2
      have r3 : w5.cell? ⟨w.heap.size + 1, 0, none⟩ = some (.int .i64 0) := HE5.out.cell 0
      have q0 := HB5.out.frozen 0
      have q1 := HB5.out.frozen 1
      have q2 := HB5.out.frozen 2
      have q3 := HE5.out.frozen 0
      have l1 := HB5.out.lt
      have l2 := HE5.out.lt
      have hne1 : w.heap.size ≠ w.heap.size + 1 := by omega
      have hne2 : w.heap.size + 1 ≠ w.heap.size := by omega
      have Hset := Lib.hid (res_set HB5.out HE5.out hne1 (Nat.le_refl _) (Nat.le_succ _) Hb5.out (.int .i64 pm.mem) (.slice pm.AD pm.data.length pm.cD) (.slice pm.AF pm.fs.length pm.cF) 0 _ rfl)
      go_wp2_with fail
      refine leaves_cons (f := 38) (args := #[.pointer (some ⟨w.heap.size, 0, none⟩), .pointer (some ⟨w.heap.size + 1, 0, none⟩)]) (by simp) (by simp [go_sem]) ?_
      refine (dd1_ret _ _ _).mono ?_
      rintro e u' w9 ⟨rfl, rfl, hb9⟩
      obtain ⟨hB8, hE8, hb8, hO8⟩ := Hset.out
      have hB9 := Blk.below hB8 hb9 hB8.lt
      have hE9 := Blk.below hE8 hb9 hE8.lt
      have hown9 := (Hown5.out.only hO8 (fun b h1 h2 h => by omega)).below hb9
      have c0 : w9.cell? ⟨w.heap.size, 0, none⟩ = some (.int .i64 pm.mem) := hB9.cell 0
      have c1 : w9.cell? ⟨w.heap.size, 1, none⟩ = some (.slice pm.AD pm.data.length pm.cD) := hB9.cell 1
      have c2 : w9.cell? ⟨w.heap.size, 2, none⟩ = some (.slice pm.AF pm.fs.length pm.cF) := hB9.cell 2
      have c3 : w9.cell? ⟨w.heap.size + 1, 0, none⟩ = some (.int .i64 0) := hE9.cell 0
      have l3 := hB9.lt
      have l4 := hE9.lt
      refine ⟨.tuple #[pm.val, .int .i64 0], ?_, ?_⟩
      · simp [results, Try.results19, go_sem, c0, c1, c2, c3]
      · rw [Hdn.out]
        exact ⟨pm, rfl, rfl, hown9.mono (by omega), hb8.trans (hb9.mono hb8.size)⟩
    · have hdn := Hdn0.out
      rw [if_neg hF0] at hdn
      have HF := Lib.hid (fun w' (hb : Below w.heap.size w w') => decPPost_no hdn hb)
      have t1 : (F == 0) = false := by simpa using hF0
      have t2 : (F != 0) = true := by simpa using hF0
      clear hdn Hdn0
      go_wp2_with (refine wpList_at 16 rfl ?_; refine wp_stop ?_)
      all_goals refine ⟨?_⟩
      all_goals go_wp2_with fail
      all_goals generalize hw5 : w4.setCell ⟨w.heap.size + 1, 0, none⟩ (.int .i64 F) = w5 at *
      all_goals clear hw5 e4 fe4 hel4 HB4 HE4 Hown4 Hb4
      all_goals
        have r0 : w5.cell? ⟨w.heap.size, 0, none⟩ = some (.int .i64 pm.mem) := HB5.out.cell 0
        have r1 : w5.cell? ⟨w.heap.size, 1, none⟩ = some (.slice pm.AD pm.data.length pm.cD) := HB5.out.cell 1
        have r2 : w5.cell? ⟨w.heap.size, 2, none⟩ = some (.slice pm.AF pm.fs.length pm.cF) := HB5.out.cell 2
        have r3 : w5.cell? ⟨w.heap.size + 1, 0, none⟩ = some (.int .i64 F) := HE5.out.cell 0
        have q0 := HB5.out.frozen 0
        have q1 := HB5.out.frozen 1
        have q2 := HB5.out.frozen 2
        have q3 := HE5.out.frozen 0
        have l1 := HB5.out.lt
        have l2 := HE5.out.lt
        have hne1 : w.heap.size ≠ w.heap.size + 1 := by omega
        have hne2 : w.heap.size + 1 ≠ w.heap.size := by omega
        have Hset := Lib.hid (res_set HB5.out HE5.out hne1 (Nat.le_refl _) (Nat.le_succ _) Hb5.out (.int .i64 0) (.slice none 0 0) (.slice none 0 0) F _ rfl)
        go_region
        all_goals
          go_wp2_with fail
          refine leaves_cons (f := 38) (args := #[.pointer (some ⟨w.heap.size, 0, none⟩), .pointer (some ⟨w.heap.size + 1, 0, none⟩)]) (by simp) (by simp [go_sem]) ?_
          refine (dd1_ret _ _ _).mono ?_
          rintro e u' w9 ⟨rfl, rfl, hb9⟩
          obtain ⟨hB8, hE8, hb8, _⟩ := Hset.out
          have hB9 := Blk.below (Blk.drew hB8) hb9 (Blk.drew hB8).lt
          have hE9 := Blk.below (Blk.drew hE8) hb9 (Blk.drew hE8).lt
          have c0 : w9.cell? ⟨w.heap.size, 0, none⟩ = some (.int .i64 0) := hB9.cell 0
          have c1 : w9.cell? ⟨w.heap.size, 1, none⟩ = some (.slice none 0 0) := hB9.cell 1
          have c2 : w9.cell? ⟨w.heap.size, 2, none⟩ = some (.slice none 0 0) := hB9.cell 2
          have c3 : w9.cell? ⟨w.heap.size + 1, 0, none⟩ = some (.int .i64 F) := hE9.cell 0
          have l3 := hB9.lt
          have l4 := hE9.lt
          have hbe := Below.trans (below_drewN hb8 1) (hb9.mono (below_drewN hb8 1).size)
          refine ⟨.tuple #[.agg #[.int .i64 0, .slice none 0 0, .slice none 0 0], .int .i64 F], ?_, HF.out _ hbe⟩
          simp [results, Try.results19, go_sem, c0, c1, c2, c3]
  · have t1 : (F == 0) = false := by simpa using hF0
    have t2 : (F != 0) = true := by simpa using hF0
    have hF0 : ¬ F = 0 := hF0
    have HF := Lib.hid (fun w' (hb : Below w.heap.size w w') => decPPost_no hdn hb)
    have hO5 := Only.setCell (S := fun b => b = w.heap.size + 1) (p := ⟨w.heap.size + 1, 0, none⟩) (Only.refl _ w2) (.inl rfl) (.int .i64 F)
    have HB5 := Lib.hid (hB2.only hO5 (by omega))
    have HE5 : Hid (Blk (w2.setCell ⟨w.heap.size + 1, 0, none⟩ (.int .i64 F)) (w.heap.size + 1) 28 #[.int .i64 F]) := Lib.hid (Blk.set_ HE2.out 0 (.int .i64 F))
    have Hb5 := Lib.hid (HB2.out.setCell (p := ⟨w.heap.size + 1, 0, none⟩) (Nat.le_succ _) (.int .i64 F))
    clear hdn hB2 hO5
    go_wp2_with fail
    all_goals generalize hw5 : w2.setCell ⟨w.heap.size + 1, 0, none⟩ (.int .i64 F) = w5 at *
    all_goals clear hw5 e0 fe hel hpel HE2 HB2
    all_goals
      have r0 : w5.cell? ⟨w.heap.size, 0, none⟩ = some (x) := HB5.out.cell 0
      have r1 : w5.cell? ⟨w.heap.size, 1, none⟩ = some (y) := HB5.out.cell 1
      have r2 : w5.cell? ⟨w.heap.size, 2, none⟩ = some (z) := HB5.out.cell 2
      have r3 : w5.cell? ⟨w.heap.size + 1, 0, none⟩ = some (.int .i64 F) := HE5.out.cell 0
      have q0 := HB5.out.frozen 0
      have q1 := HB5.out.frozen 1
      have q2 := HB5.out.frozen 2
      have q3 := HE5.out.frozen 0
      have l1 := HB5.out.lt
      have l2 := HE5.out.lt
      have hne1 : w.heap.size ≠ w.heap.size + 1 := by omega
      have hne2 : w.heap.size + 1 ≠ w.heap.size := by omega
      have Hset := Lib.hid (res_set HB5.out HE5.out hne1 (Nat.le_refl _) (Nat.le_succ _) Hb5.out (.int .i64 0) (.slice none 0 0) (.slice none 0 0) F _ rfl)
      go_region
      all_goals
        go_wp2_with fail
        refine leaves_cons (f := 38) (args := #[.pointer (some ⟨w.heap.size, 0, none⟩), .pointer (some ⟨w.heap.size + 1, 0, none⟩)]) (by simp) (by simp [go_sem]) ?_
        refine (dd1_ret _ _ _).mono ?_
        rintro e u' w9 ⟨rfl, rfl, hb9⟩
        obtain ⟨hB8, hE8, hb8, _⟩ := Hset.out
        have hB9 := Blk.below (Blk.drew hB8) hb9 (Blk.drew hB8).lt
        have hE9 := Blk.below (Blk.drew hE8) hb9 (Blk.drew hE8).lt
        have c0 : w9.cell? ⟨w.heap.size, 0, none⟩ = some (.int .i64 0) := hB9.cell 0
        have c1 : w9.cell? ⟨w.heap.size, 1, none⟩ = some (.slice none 0 0) := hB9.cell 1
        have c2 : w9.cell? ⟨w.heap.size, 2, none⟩ = some (.slice none 0 0) := hB9.cell 2
        have c3 : w9.cell? ⟨w.heap.size + 1, 0, none⟩ = some (.int .i64 F) := hE9.cell 0
        have l3 := hB9.lt
        have l4 := hE9.lt
        have hbe := Below.trans (below_drewN hb8 1) (hb9.mono (below_drewN hb8 1).size)
        refine ⟨.tuple #[.agg #[.int .i64 0, .slice none 0 0, .slice none 0 0], .int .i64 F], ?_, HF.out _ hbe⟩
        simp [results, Try.results19, go_sem, c0, c1, c2, c3]
end Go.Proofs.Ytadnjfoinmeloaa
