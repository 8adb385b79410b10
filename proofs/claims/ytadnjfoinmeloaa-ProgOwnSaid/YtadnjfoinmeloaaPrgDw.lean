/- The walks of prog's code and of the function that its Decode hands to Read. -/
import Derived.Test.YtadnjfoinmeloaaPrgD
import Derived.Test.YtadnjfoinmeloaaRegK
import Derived.Test.YtadnjfoinmeloaaInB
import Derived.Test.YtadnjfoinmeloaaInsJ
namespace Go.Proofs.Ytadnjfoinmeloaa
open Go.RowKit

theorem fun_info : (Try.prog.info? 50).map (fun i => (i.zero, i.size, i.bytes)) = some (some (.agg #[.int .i64 0, .int .i64 0, .int .i64 0, .slice none 0 0]), 4, 48) := by kernel_rfl
theorem eFun : Elem Try.prog 23 50 4 48 := elem_of Try.underlying23 fun_info rfl (by decide)
def refusedE (f : Int) : PanicEntry := { v := .iface 69 (.agg #[.int .i64 f]), recovered := false }
def CodePost (w : World) (r : List Ins × Int) (e : Ending) (w' : World) : Prop :=
  (r.2 = 0 ∧ ∃ A2 c2, e = .returned (.slice A2 r.1.length c2) ∧ Own w' w.heap.size 52 2 A2 r.1.length c2 (r.1.flatMap insCells) ∧ Below w.heap.size w w') ∨
    (r.2 ≠ 0 ∧ e = .panicked [refusedE r.2] ∧ Below w.heap.size w w')
set_option maxRecDepth 100000 in
theorem code_any (A : Option Addr) (c : Nat) (bs : List UInt8) (w : World) (hS : Sl w ⟨A, c, bs⟩) (hl : bs.length ≤ 200000000000000) :
    Calls Try.prog 44 #[.slice A bs.length c] w (CodePost w (decL bs)) := by
  have hpan : ∀ (T : TypeId) (x : Value) (w : World), (Instr.panic (.iface T x)).run Try.prog w = .halt (.panic (.iface T x)) w := fun _ _ _ => rfl
  have hd := decode_any A c bs w hS hl
  obtain ⟨r, hr⟩ : ∃ r, r = decL bs := ⟨_, rfl⟩
  rw [← hr] at hd ⊢
  obtain ⟨xs, f⟩ := r
  have Hd := Lib.hid hd
  clear hS hd hr
  go_enter Try.func44, Try.ntmps44
  go_wp2_with fail
  refine Hd.out.mono ?_
  intro e w2 hpost
  obtain ⟨A2, c2, rfl, hown, hb⟩ := hpost
  try dsimp only at hown ⊢
  have Hown := Lib.hid hown
  have Hb := Lib.hid hb
  clear hown hb Hd
  by_cases hf : f = 0
  · subst hf
    go_wp2_with fail
    go_ret
    exact .inl ⟨rfl, A2, c2, rfl, Hown.out, Hb.out⟩
  · have hf2 : (f != 0) = true := by simpa using hf
    go_wp2_with fail
    exact ⟨rfl, .inr ⟨hf, rfl, Hb.out⟩⟩
structure At2 (w0 w : World) (g pc c : Nat) (A : Option Addr) (bs : List UInt8) (a : Nat) (p : PrgM) : Prop where
  rd : Rd w g A c bs a false 0
  blk : Blk w pc 25 #[.int .i64 p.mem, .slice p.AD p.data.length p.cD, .slice p.AF p.fs.length p.cF]
  own : PrgOwn w w0.heap.size p
  only : Only (fun b => b = g ∨ b = pc) w0 w
def Dec2Post (w : World) (g pc c : Nat) (A : Option Addr) (bs : List UInt8) (R : Res Prg) (e : Ending) (w' : World) : Prop :=
  Only (fun b => b = g ∨ b = pc) w w' ∧ ((∃ pm a, R = .ok pm.plain a ∧ e = .returned (.tuple #[]) ∧ Rd w' g A c bs a false 0 ∧ Blk w' pc 25 #[.int .i64 pm.mem, .slice pm.AD pm.data.length pm.cD, .slice pm.AF pm.fs.length pm.cF] ∧ PrgOwn w' w.heap.size pm) ∨
    (∃ f at_, f ≠ 0 ∧ R = .fell f ∧ e = .panicked [endedE g] ∧ Rd w' g A c bs at_ true f ∧ ∃ x y z, Blk w' pc 25 #[x, y, z]) ∨
    (∃ f at_, f ≠ 0 ∧ R = .refused f ∧ e = .panicked [refusedE f] ∧ Rd w' g A c bs at_ false 0 ∧ ∃ x y z, Blk w' pc 25 #[x, y, z]))
set_option maxRecDepth 100000 in
set_option maxHeartbeats 4000000 in
theorem dec2_any (g pc c : Nat) (A : Option Addr) (bs : List UInt8) (w : World) (hrd : Rd w g A c bs 0 false 0) (hl : bs.length ≤ 1048576) (hpc : Blk w pc 25 #[.int .i64 0, .slice none 0 0, .slice none 0 0]) (hgp : pc ≠ g) (hA : ∀ b o, A = some ⟨b, o, none⟩ → b ≠ pc ∧ b < w.heap.size) :
    Calls Try.prog 40 #[.pointer (some ⟨g, 0, none⟩), .pointer (some ⟨pc, 0, none⟩)] w (Dec2Post w g pc c A bs (readPrg bs)) := by
  have hl2 : bs.length ≤ 140737488351232 := by omega
  obtain ⟨R, hR⟩ : ∃ R, R = readPrg bs := ⟨_, rfl⟩
  rw [← hR]
  unfold readPrg at hR
  have Hrd := Lib.hid hrd
  have Hpc := Lib.hid hpc
  have HA := Lib.hid hA
  have hgl := hrd.blk.lt
  have hpl := hpc.lt
  have hn := rNum_any g c 0 A bs w hrd hl2
  have hfells : ∀ f (w' : World), f ≠ 0 → R = .fell f → (∃ at_, Rd w' g A c bs at_ true f) → Only (fun b => b = g) w w' → Dec2Post w g pc c A bs R (.panicked [endedE g]) w' := fun f w' h0 h1 ⟨at_, h2⟩ h3 => ⟨h3.mono fun _ _ e => .inl e, .inr (.inl ⟨f, at_, h0, h1, rfl, h2, _, _, _, Hpc.out.only h3 hgp⟩)⟩
  have Hfells := Lib.hid hfells
  clear hrd hpc hA hfells
  cases hr : rNumL bs 0 with
  | error f =>
    rw [hr] at hn hR
    dsimp only at hn hR
    have hff := rNumL_err hr
    have Hn := Lib.hid hn
    have HR := Lib.hid hR
    clear hn hR hr
    go_enter Try.func40, Try.ntmps40
    go_wp2_with fail
    refine Hn.out.mono ?_
    rintro e w1 ⟨rfl, hrd1, ho1⟩
    have HF := Lib.hid (Hfells.out f w1 hff HR.out hrd1 ho1)
    clear hrd1 ho1 Hn
    go_wp2_with fail
    exact ⟨rfl, HF.out⟩
  | ok q =>
  obtain ⟨t, k⟩ := q
  rw [hr] at hn hR
  dsimp only at hn hR
  have Hn := Lib.hid hn
  clear hn hr
  by_cases ht : t = 2
  case neg =>
    rw [if_neg ht] at hR
    have HR := Lib.hid hR
    have htI : ¬ (t : Int) = 2 := by omega
    have htn : ((t : Int) != 2) = true := by simpa using htI
    clear hR
    go_enter Try.func40, Try.ntmps40
    go_wp2_with fail
    refine Hn.out.mono ?_
    rintro e w1 ⟨rfl, hrd1, ho1⟩
    have hfl := fail_any g c (0 + k) A bs 52 (by decide) w1 hrd1
    have Hfl := Lib.hid hfl
    have Ho1 := Lib.hid ho1
    clear hrd1 ho1 Hn hfl
    go_wp2_with fail
    refine Hfl.out.mono ?_
    rintro e w2 ⟨rfl, hrd2, ho2⟩
    have HF := Lib.hid (Hfells.out 52 w2 (by decide) HR.out hrd2 (Ho1.out.trans ho2))
    clear hrd2 ho2 Hfl
    go_wp2_with fail
    exact ⟨rfl, HF.out⟩
  subst ht
  rw [if_pos rfl] at hR
  have HR := Lib.hid hR
  clear hR
  go_enter Try.func40, Try.ntmps40
  go_wp2_with fail
  refine Hn.out.mono ?_
  rintro e w1 ⟨rfl, hrd1, ho1⟩
  have hn2 := rNum_any g c (0 + k) A bs w1 hrd1 hl2
  have Ho1 := Lib.hid ho1
  have hR := HR.out
  clear hrd1 ho1 Hn HR
  cases hr : rNumL bs (0 + k) with
  | error f =>
    rw [hr] at hn2 hR
    dsimp only at hn2 hR
    have hff := rNumL_err hr
    have Hn2 := Lib.hid hn2
    have HR := Lib.hid hR
    clear hn2 hR hr
    go_wp2_with fail
    refine Hn2.out.mono ?_
    rintro e w2 ⟨rfl, hrd2, ho2⟩
    have HF := Lib.hid (Hfells.out f w2 hff HR.out hrd2 (Ho1.out.trans ho2))
    clear hrd2 ho2 Hn2
    go_wp2_with fail
    exact ⟨rfl, HF.out⟩
  | ok q =>
  obtain ⟨m, k2⟩ := q
  rw [hr] at hn2 hR
  dsimp only at hn2 hR
  have hmlt := (rNum_lt hr).1
  have Hn2 := Lib.hid hn2
  have HR := Lib.hid hR
  clear hn2 hr hR
  go_wp2_with fail
  refine Hn2.out.mono ?_
  rintro e w2 ⟨rfl, hrd2, ho2⟩
  have Ho2 := Lib.hid (Ho1.out.trans ho2)
  have Hpc2 := Lib.hid (Hpc.out.only Ho2.out hgp)
  have p0 : w2.cell? ⟨pc, 0, none⟩ = some (.int .i64 0) := Hpc2.out.cell 0
  have pf0 := Hpc2.out.frozen 0
  have hpl2 := Hpc2.out.lt
  have Hrd2 := Lib.hid hrd2
  clear hrd2 ho2 Hn2
  have hbt := rBytes_any g c (0 + k + k2) A bs (w2.setCell ⟨pc, 0, none⟩ (.int .i64 (m : Int))) (Hrd2.out.only (S := fun b => b = pc) (Only.setCell (S := fun b => b = pc) (p := ⟨pc, 0, none⟩) (Only.refl _ w2) (.inl rfl) _) (fun e => hgp e.symm) (fun b o e => (HA.out b o e).1)) hl2
  have hX3 : Blk (w2.setCell ⟨pc, 0, none⟩ (.int .i64 (m : Int))) pc 25 #[.int .i64 (m : Int), .slice none 0 0, .slice none 0 0] := Hpc2.out.set_ 0 _
  have hO3 : Only (fun b => b = g ∨ b = pc) w (w2.setCell ⟨pc, 0, none⟩ (.int .i64 (m : Int))) := (Ho2.out.mono fun _ _ e => .inl e).setCell (p := ⟨pc, 0, none⟩) (.inl (.inr rfl)) _
  have HX3 := Lib.hid hX3
  have HO3 := Lib.hid hO3
  have Hbt := Lib.hid hbt
  clear hbt hX3 hO3
  go_wp2_with fail
  generalize hw3 : World.setCell w2 ⟨pc, 0, none⟩ (.int .i64 (m : Int)) = w3
  rw [hw3] at HX3 HO3 Hbt
  have hbt := Hbt.out
  have hR := HR.out
  clear hw3 p0 pf0 Hbt HR Hrd2 Hpc2 Ho2
  have hfells3 : ∀ f (w' : World) (x y z : Value), f ≠ 0 → R = .fell f → (∃ at_, Rd w' g A c bs at_ true f) → Only (fun b => b = g ∨ b = pc) w w' → Blk w' pc 25 #[x, y, z] → Dec2Post w g pc c A bs R (.panicked [endedE g]) w' := fun f w' x y z h0 h1 ⟨at_, h2⟩ h3 h4 => ⟨h3, .inr (.inl ⟨f, at_, h0, h1, rfl, h2, _, _, _, h4⟩)⟩
  have Hfells3 := Lib.hid hfells3
  clear hfells3 Hfells
  cases hr : rBytesL bs (0 + k + k2) with
  | error f =>
    rw [hr] at hbt hR
    dsimp only at hbt hR
    have hff := rBytes_err hr
    have Hbt := Lib.hid hbt
    have HR := Lib.hid hR
    clear hbt hR hr
    refine Hbt.out.mono ?_
    rintro e w4 ⟨rfl, hrd4, ho4⟩
    have HF := Lib.hid (Hfells3.out f w4 _ _ _ hff HR.out hrd4 (HO3.out.trans (ho4.mono fun _ _ e => .inl e)) (HX3.out.only ho4 hgp))
    clear hrd4 ho4 Hbt
    go_wp2_with fail
    exact ⟨rfl, HF.out⟩
  | ok q =>
  obtain ⟨d, a1⟩ := q
  rw [hr] at hbt hR
  dsimp only at hbt hR
  have hdlen := (rBytes_len hr).1
  have Hbt := Lib.hid hbt
  have HR := Lib.hid hR
  clear hbt hR hr
  refine Hbt.out.mono ?_
  intro e w4 hpost
  obtain ⟨AD, cD, rfl, hownD, hrd4, ho4⟩ := hpost
  have HX4 := Lib.hid (HX3.out.only ho4 hgp)
  have HO4 := Lib.hid (HO3.out.trans (ho4.mono fun _ _ e => .inl e))
  have p1 : w4.cell? ⟨pc, 1, none⟩ = some (.slice none 0 0) := HX4.out.cell 1
  have pf1 := HX4.out.frozen 1
  have hpl4 := HX4.out.lt
  have HownD := Lib.hid (hownD.mono HO3.out.size)
  have Hrd4 := Lib.hid hrd4
  have hz34 := ho4.size
  clear hownD hrd4 ho4 Hbt
  have hn3 := rNum_any g c a1 A bs (w4.setCell ⟨pc, 1, none⟩ (.slice AD d.length cD)) (Hrd4.out.only (S := fun b => b = pc) (Only.setCell (S := fun b => b = pc) (p := ⟨pc, 1, none⟩) (Only.refl _ w4) (.inl rfl) _) (fun e => hgp e.symm) (fun b o e => (HA.out b o e).1)) hl2
  have hX5 : Blk (w4.setCell ⟨pc, 1, none⟩ (.slice AD d.length cD)) pc 25 #[.int .i64 (m : Int), .slice AD d.length cD, .slice none 0 0] := HX4.out.set_ 1 _
  have hO5 : Only (fun b => b = g ∨ b = pc) w (w4.setCell ⟨pc, 1, none⟩ (.slice AD d.length cD)) := HO4.out.setCell (p := ⟨pc, 1, none⟩) (.inl (.inr rfl)) _
  have hD5 : OwnB (w4.setCell ⟨pc, 1, none⟩ (.slice AD d.length cD)) w.heap.size AD d.length cD d := Own.only HownD.out (S := fun b => b = pc) (Only.setCell (S := fun b => b = pc) (p := ⟨pc, 1, none⟩) (Only.refl _ w4) (.inl rfl) _) fun b o e h => by have := (Own.lt HownD.out b o e).1; omega
  have HX5 := Lib.hid hX5
  have HO5 := Lib.hid hO5
  have HD5 := Lib.hid hD5
  have Hn3 := Lib.hid hn3
  clear hn3 hX5 hO5 hD5
  go_wp2_with fail
  generalize hw5 : World.setCell w4 ⟨pc, 1, none⟩ (.slice AD d.length cD) = w5
  rw [hw5] at HX5 HO5 HD5 Hn3
  have hn3 := Hn3.out
  have hR := HR.out
  clear hw5 p1 pf1 Hn3 HR HownD Hrd4 HX4 HO4
  cases hr : rNumL bs a1 with
  | error f =>
    rw [hr] at hn3 hR
    dsimp only at hn3 hR
    have hff := rNumL_err hr
    have Hn3 := Lib.hid hn3
    have HR := Lib.hid hR
    clear hn3 hR hr
    refine Hn3.out.mono ?_
    rintro e w6 ⟨rfl, hrd6, ho6⟩
    have HF := Lib.hid (Hfells3.out f w6 _ _ _ hff HR.out hrd6 (HO5.out.trans (ho6.mono fun _ _ e => .inl e)) (HX5.out.only ho6 hgp))
    clear hrd6 ho6 Hn3
    go_wp2_with fail
    exact ⟨rfl, HF.out⟩
  | ok q =>
  obtain ⟨n, k3⟩ := q
  rw [hr] at hn3 hR
  dsimp only at hn3 hR
  have Hn3 := Lib.hid hn3
  have HR := Lib.hid hR
  clear hn3 hR hr
  refine Hn3.out.mono ?_
  rintro e w6 ⟨rfl, hrd6, ho6⟩
  have HX6 := Lib.hid (HX5.out.only ho6 hgp)
  have HO6 := Lib.hid (HO5.out.trans (ho6.mono fun _ _ e => .inl e))
  have HD6 := Lib.hid (Own.only HD5.out ho6 fun b o e h => by have := (Own.lt HD5.out b o e).1; omega)
  have Hrd6 := Lib.hid hrd6
  clear hrd6 ho6 Hn3 HX5 HO5 HD5
  by_cases hbig : 64 < n
  · have g1 : (64 : Int) < (n : Int) := by omega
    have HRf : Hid (R = .fell 121) := Lib.hid (by rw [HR.out, if_pos hbig])
    have hfl := fail_any g c (a1 + k3) A bs 121 (by decide) w6 Hrd6.out
    have Hfl := Lib.hid hfl
    clear hfl HR
    go_wp2_with fail
    refine Hfl.out.mono ?_
    rintro e w7 ⟨rfl, hrd7, ho7⟩
    have HF := Lib.hid (Hfells3.out 121 w7 _ _ _ (by decide) HRf.out hrd7 (HO6.out.trans (ho7.mono fun _ _ e => .inl e)) (HX6.out.only ho7 hgp))
    clear hrd7 ho7 Hfl
    go_wp2_with fail
    exact ⟨rfl, HF.out⟩
  have g1 : ¬ (64 : Int) < (n : Int) := by omega
  have HR0 : Hid (R = wrapR (m : Int) d (readFuns bs (n - 0) (([] : List FunM).map FunM.plain) (a1 + k3))) := Lib.hid (by rw [HR.out, if_neg hbig]; rfl)
  clear HR
  have hdl : d.length ≤ 140737488351232 := by omega
  go_wp2_with fail
  go_loopw [23] (fun i wr => ∃ (j a : Nat) (fs : List FunM) (AF : Option Addr) (cF : Nat), j ≤ n ∧ i = .int .i64 j ∧ At2 w wr g pc c A bs a ⟨(m : Int), AD, cD, d, AF, cF, fs⟩ ∧ fs.length = j ∧ Hid (R = wrapR (m : Int) d (readFuns bs (n - j) (fs.map FunM.plain) a))) (fun i _ => n - (intOf i).toNat)
  case atStart => exact ⟨0, a1 + k3, [], none, 0, Nat.zero_le _, rfl, ⟨Hrd6.out, HX6.out, ⟨HD6.out, Own.nil _ _ _ _, (fun f hf => by cases hf), (fun f hf => by cases hf), by dsimp only; omega, by dsimp only; omega, hdl, by simp, ApartF.nil⟩, HO6.out⟩, rfl, HR0⟩
  case round =>
    rename World => v0
    obtain ⟨j, a, fs, AF, cF, hj, rfl, hat, hfl, hRk⟩ := hrel
    obtain ⟨hrd, hblk, hown, hO⟩ := hat
    subst hfl
    have hzv := hO.size
    have Hrd0 := Lib.hid hrd
    have HX0 := Lib.hid hblk
    have Hown0 := Lib.hid hown
    have HO0 := Lib.hid hO
    clear hrd hblk hown hO
    by_cases hlt : fs.length < n
    · have g2 : (fs.length : Int) < (n : Int) := by omega
      obtain ⟨q, hq⟩ : ∃ q, n - fs.length = q + 1 := ⟨n - fs.length - 1, by omega⟩
      have hRk2 := hRk.out
      rw [hq] at hRk2
      unfold readFuns at hRk2
      obtain ⟨F, hF⟩ : ∃ F, F = readFun bs a := ⟨_, rfl⟩
      rw [← hF] at hRk2
      unfold readFun at hF
      have HRk := Lib.hid hRk2
      have Hq := Lib.hid hq
      clear hRk2 hRk hq
      have hb1 := rNum_any g c a A bs v0 Hrd0.out hl2
      cases hr : rNumL bs a with
      | error f =>
        rw [hr] at hb1 hF
        dsimp only at hb1 hF
        have hff := rNumL_err hr
        have Hb1 := Lib.hid hb1
        have HRf : Hid (R = .fell f) := Lib.hid (by rw [HRk.out, hF]; rfl)
        clear hb1 hF hr HRk
        go_wp2_with fail
        refine Hb1.out.mono ?_
        rintro e v1 ⟨rfl, hrd1, ho1⟩
        have HF := Lib.hid (Hfells3.out f v1 _ _ _ hff HRf.out hrd1 (HO0.out.trans (ho1.mono fun _ _ e => .inl e)) (HX0.out.only ho1 hgp))
        clear hrd1 ho1 Hb1
        go_wp2_with fail
        exact ⟨rfl, HF.out⟩
      | ok p1 =>
      obtain ⟨u1, l1⟩ := p1
      rw [hr] at hb1 hF
      dsimp only at hb1 hF
      have hu1 := (rNum_lt hr).1
      have Hb1 := Lib.hid hb1
      have HF := Lib.hid hF
      clear hb1 hF hr
      go_wp2_with fail
      refine Hb1.out.mono ?_
      rintro e v1 ⟨rfl, hrd1, ho1⟩
      have hb2 := rNum_any g c (a + l1) A bs v1 hrd1 hl2
      have Ho1 := Lib.hid ho1
      have hF := HF.out
      clear hrd1 ho1 Hb1 HF
      cases hr : rNumL bs (a + l1) with
      | error f =>
        rw [hr] at hb2 hF
        dsimp only at hb2 hF
        have hff := rNumL_err hr
        have Hb2 := Lib.hid hb2
        have HRf : Hid (R = .fell f) := Lib.hid (by rw [HRk.out, hF]; rfl)
        clear hb2 hF hr HRk
        go_wp2_with fail
        refine Hb2.out.mono ?_
        rintro e v2 ⟨rfl, hrd2, ho2⟩
        have HF := Lib.hid (Hfells3.out f v2 _ _ _ hff HRf.out hrd2 (HO0.out.trans ((Ho1.out.trans ho2).mono fun _ _ e => .inl e)) (HX0.out.only (Ho1.out.trans ho2) hgp))
        clear hrd2 ho2 Hb2
        go_wp2_with fail
        exact ⟨rfl, HF.out⟩
      | ok p2 =>
      obtain ⟨u2, l2⟩ := p2
      rw [hr] at hb2 hF
      dsimp only at hb2 hF
      have hu2 := (rNum_lt hr).1
      have Hb2 := Lib.hid hb2
      have HF := Lib.hid hF
      clear hb2 hF hr
      go_wp2_with fail
      refine Hb2.out.mono ?_
      rintro e v2 ⟨rfl, hrd2, ho2⟩
      have hb3 := rNum_any g c (a + l1 + l2) A bs v2 hrd2 hl2
      have Ho2 := Lib.hid (Ho1.out.trans ho2)
      have hF := HF.out
      clear hrd2 ho2 Hb2 HF Ho1
      cases hr : rNumL bs (a + l1 + l2) with
      | error f =>
        rw [hr] at hb3 hF
        dsimp only at hb3 hF
        have hff := rNumL_err hr
        have Hb3 := Lib.hid hb3
        have HRf : Hid (R = .fell f) := Lib.hid (by rw [HRk.out, hF]; rfl)
        clear hb3 hF hr HRk
        go_wp2_with fail
        refine Hb3.out.mono ?_
        rintro e v3 ⟨rfl, hrd3, ho3⟩
        have HF := Lib.hid (Hfells3.out f v3 _ _ _ hff HRf.out hrd3 (HO0.out.trans ((Ho2.out.trans ho3).mono fun _ _ e => .inl e)) (HX0.out.only (Ho2.out.trans ho3) hgp))
        clear hrd3 ho3 Hb3
        go_wp2_with fail
        exact ⟨rfl, HF.out⟩
      | ok p3 =>
      obtain ⟨u3, l3⟩ := p3
      rw [hr] at hb3 hF
      dsimp only at hb3 hF
      have hu3 := (rNum_lt hr).1
      have Hb3 := Lib.hid hb3
      have HF := Lib.hid hF
      clear hb3 hF hr
      go_wp2_with fail
      refine Hb3.out.mono ?_
      rintro e v3 ⟨rfl, hrd3, ho3⟩
      have Ho3 := Lib.hid (Ho2.out.trans ho3)
      have Hrd3 := Lib.hid hrd3
      clear hrd3 ho3 Hb3 Ho2
      go_wp2_with fail
      obtain ⟨v4, hv4⟩ : ∃ v4, v4 = v3.alloc (.cells #[.int .i64 (u1 : Int), .int .i64 (u2 : Int), .int .i64 (u3 : Int)] 77) := ⟨_, rfl⟩
      rw [← hv4]
      have hb34 : Below v3.heap.size v3 v4 := by rw [hv4]; exact (Below.refl _ _).alloc (Nat.le_refl _) _
      have hH4 : Blk v4 v3.heap.size 77 #[.int .i64 (u1 : Int), .int .i64 (u2 : Int), .int .i64 (u3 : Int)] := by rw [hv4]; exact Blk.new _ _ _
      have hz03 := Ho3.out.size
      have hz34v := hH4.lt
      have hX4 := (HX0.out.only Ho3.out hgp).below hb34 (by have := HX0.out.lt; omega)
      have hrd4 := Hrd3.out.below hb34
      have hown4 := (Hown0.out.only Ho3.out fun b h1 h2 e => by omega).below hb34
      have hO4 : Only (fun b => b = g) v0 v4 := Ho3.out.trans (Only.of_fresh hb34)
      have HX4 := Lib.hid hX4
      have HH4 := Lib.hid hH4
      have Hrd4 := Lib.hid hrd4
      have Hown4 := Lib.hid hown4
      have HO4 := Lib.hid hO4
      have hpl4v := hX4.lt
      clear hv4 hb34 hH4 hX4 hrd4 hown4 hO4 Hrd3
      have hS : ∀ w' : World, Only (fun b => b = g) v4 w' → w'.cell? ⟨pc, 2, none⟩ = some (.slice AF fs.length cF) ∧ w'.cell? ⟨v3.heap.size, 0, none⟩ = some (.int .i64 (u1 : Int)) ∧ w'.cell? ⟨v3.heap.size, 1, none⟩ = some (.int .i64 (u2 : Int)) ∧ w'.cell? ⟨v3.heap.size, 2, none⟩ = some (.int .i64 (u3 : Int)) := fun w' h => ⟨(HX4.out.only h hgp).cell 2, (HH4.out.only h (by omega)).cell 0, (HH4.out.only h (by omega)).cell 1, (HH4.out.only h (by omega)).cell 2⟩
      try simp only [Act.put]
      refine region_heldT 13 (fun w' => w'.cell? ⟨pc, 2, none⟩ = some (.slice AF fs.length cF) ∧ w'.cell? ⟨v3.heap.size, 0, none⟩ = some (.int .i64 (u1 : Int)) ∧ w'.cell? ⟨v3.heap.size, 1, none⟩ = some (.int .i64 (u2 : Int)) ∧ w'.cell? ⟨v3.heap.size, 2, none⟩ = some (.int .i64 (u3 : Int))) (by kernel_rfl) (by decide) ?_
      have ho4d : Only (fun b => b = g) v4 v4.drew := (Only.refl _ v4).drew
      have hS0 := hS _ ho4d
      refine HeadW.take 0 (v := .pointer (some ⟨pc, 2, none⟩)) rfl (by kernel_rfl) (by kernel_rfl) (by kernel_rfl) (by decide) (by decide) (fun _ _ _ hL => seqB_ready hL.1) (by kernel_rfl) (by kernel_rfl) (fun _ _ _ h => h) hS0 (.inl ⟨by rfl, by intro w hSw; (try dsimp only at hSw); go_simp⟩) ?_
      simp only [Act.put, List.setIfInBounds_toArray]
      refine HeadW.take 1 (v := .slice AF fs.length cF) rfl (by kernel_rfl) (by kernel_rfl) (by kernel_rfl) (by decide) (by decide) (fun _ _ _ hL => seqB_ready hL.1) (by kernel_rfl) (by kernel_rfl) (fun _ _ _ h => h) hS0 (.inl ⟨by rfl, by intro w hSw; (try dsimp only at hSw); go_simp⟩) ?_
      simp only [Act.put]
      refine HeadW.take 2 (v := .pointer (some ⟨v3.heap.size, 0, none⟩)) rfl (by kernel_rfl) (by kernel_rfl) (by kernel_rfl) (by decide) (by decide) (fun _ _ _ hL => seqB_ready hL.1) (by kernel_rfl) (by kernel_rfl) (fun _ _ _ h => h) hS0 (.inl ⟨by rfl, by intro w hSw; (try dsimp only at hSw); go_simp⟩) ?_
      simp only [Act.put]
      refine HeadW.take 3 (v := .int .i64 (u1 : Int)) rfl (by kernel_rfl) (by kernel_rfl) (by kernel_rfl) (by decide) (by decide) (fun _ _ _ hL => seqB_ready hL.1) (by kernel_rfl) (by kernel_rfl) (fun _ _ _ h => h) hS0 (.inl ⟨by rfl, by intro w hSw; (try dsimp only at hSw); go_simp⟩) ?_
      simp only [Act.put]
      refine HeadW.take 4 (v := .pointer (some ⟨v3.heap.size, 1, none⟩)) rfl (by kernel_rfl) (by kernel_rfl) (by kernel_rfl) (by decide) (by decide) (fun _ _ _ hL => seqB_ready hL.1) (by kernel_rfl) (by kernel_rfl) (fun _ _ _ h => h) hS0 (.inl ⟨by rfl, by intro w hSw; (try dsimp only at hSw); go_simp⟩) ?_
      simp only [Act.put]
      refine HeadW.take 5 (v := .int .i64 (u2 : Int)) rfl (by kernel_rfl) (by kernel_rfl) (by kernel_rfl) (by decide) (by decide) (fun _ _ _ hL => seqB_ready hL.1) (by kernel_rfl) (by kernel_rfl) (fun _ _ _ h => h) hS0 (.inl ⟨by rfl, by intro w hSw; (try dsimp only at hSw); go_simp⟩) ?_
      simp only [Act.put]
      refine HeadW.take 6 (v := .pointer (some ⟨v3.heap.size, 2, none⟩)) rfl (by kernel_rfl) (by kernel_rfl) (by kernel_rfl) (by decide) (by decide) (fun _ _ _ hL => seqB_ready hL.1) (by kernel_rfl) (by kernel_rfl) (fun _ _ _ h => h) hS0 (.inl ⟨by rfl, by intro w hSw; (try dsimp only at hSw); go_simp⟩) ?_
      simp only [Act.put]
      refine HeadW.take 7 (v := .int .i64 (u3 : Int)) rfl (by kernel_rfl) (by kernel_rfl) (by kernel_rfl) (by decide) (by decide) (fun _ _ _ hL => seqB_ready hL.1) (by kernel_rfl) (by kernel_rfl) (fun _ _ _ h => h) hS0 (.inl ⟨by rfl, by intro w hSw; (try dsimp only at hSw); go_simp⟩) ?_
      simp only [Act.put]
      refine HeadW.take 8 (v := .pointer (some ⟨g, 0, none⟩)) rfl (by kernel_rfl) (by kernel_rfl) (by kernel_rfl) (by decide) (by decide) (fun _ _ _ hL => seqB_ready hL.1) (by kernel_rfl) (by kernel_rfl) (fun _ _ _ h => h) hS0 (.inl ⟨by rfl, by intro w hSw; (try dsimp only at hSw); go_simp⟩) ?_
      simp only [Act.put]
      obtain ⟨v5, hv5⟩ : ∃ v5, v5 = v4.drew := ⟨_, rfl⟩
      have HO5v := Lib.hid (show Only (fun b => b = g) v4 v5 from by rw [hv5]; exact ho4d)
      have hrd5 : Rd v5 g A c bs (a + l1 + l2 + l3) false 0 := by rw [hv5]; exact Hrd4.out.drewN 1
      have HS := Lib.hid hS
      have hb4 := rBytes_any g c (a + l1 + l2 + l3) A bs v5 hrd5 hl2
      rw [← hv5]
      have hF := HF.out
      clear hv5 ho4d hS0 hS hrd5 HF
      refine HeadW.one 9 rfl (by decide) (by kernel_rfl) fun K hK => ?_
      go_simp
      cases hr : rBytesL bs (a + l1 + l2 + l3) with
      | error f =>
        rw [hr] at hb4 hF
        dsimp only at hb4 hF
        have hff := rBytes_err hr
        have HRf : Hid (R = .fell f) := Lib.hid (by rw [HRk.out, hF]; rfl)
        refine hb4.mono ?_
        rintro e v6 ⟨rfl, hrd6, ho6⟩
        have hO46 := (HO4.out.trans (HO5v.out.trans ho6))
        have HF := Lib.hid (Hfells3.out f v6 _ _ _ hff HRf.out hrd6 (HO0.out.trans (hO46.mono fun _ _ e => .inl e)) (HX0.out.only hO46 hgp))
        clear hrd6 ho6 hb4 hF hr HRk hO46
        go_wp2_with fail
        exact ⟨rfl, HF.out⟩
      | ok p4 =>
      obtain ⟨cs, a2⟩ := p4
      rw [hr] at hb4 hF
      dsimp only at hb4 hF
      have hcl := rBytes_len hr
      have HF := Lib.hid hF
      refine hb4.mono ?_
      intro e v6 hpost
      obtain ⟨AB, cB, rfl, hownB, hrd6, ho6⟩ := hpost
      have HO46 := Lib.hid (HO5v.out.trans ho6)
      have Hrd6 := Lib.hid hrd6
      have hcd := code_any AB cB cs v6 (Sl.of_own hownB) (by omega)
      have Hcd := Lib.hid hcd
      refine hK.out _ _ (HS.out _ HO46.out) (fun hHeld => ?_)
      clear hK K hHeld hb4 hF hr ho6 hrd6 hownB hcd
      refine HeadW.one 10 rfl (by decide) (by kernel_rfl) fun K hK => ?_
      go_simp
      refine Hcd.out.mono ?_
      intro e v7 hpost
      rcases hpost with ⟨hz, A7, c7, rfl, hown7, hb67⟩ | ⟨hz, rfl, hb67⟩
      rotate_left
      · have HRf : Hid (R = .refused (decL cs).2) := Lib.hid (by rw [HRk.out, HF.out, if_neg hz]; rfl)
        have hO47 : Only (fun b => b = g) v0 v7 := HO4.out.trans (HO46.out.trans (Only.of_fresh hb67))
        have HFn := Lib.hid (show Dec2Post w g pc c A bs R (.panicked [refusedE (decL cs).2]) v7 from ⟨HO0.out.trans (hO47.mono fun _ _ e => .inl e), .inr (.inr ⟨_, a2, hz, HRf.out, rfl, Hrd6.out.below hb67, _, _, _, HX0.out.only hO47 hgp⟩)⟩)
        clear hb67 hO47 HF HRk Hcd
        go_wp2_with fail
        exact ⟨rfl, HFn.out⟩
      have HFk : Hid (F = .ok ⟨(u1 : Int), (u2 : Int), (u3 : Int), (decL cs).1⟩ a2) := Lib.hid (by rw [HF.out, if_pos hz])
      have hl7 : (decL cs).1.length ≤ 4096 ∧ ∀ i ∈ (decL cs).1, InsOk i := by
        rcases dec_back cs with ⟨-, -, h1, h2⟩ | ⟨-, h1⟩
        · exact ⟨h2, fun i hi => (h1 i hi).2⟩
        · rw [h1]; exact ⟨by simp, fun i hi => by cases hi⟩
      generalize (decL cs).1 = lc at *
      have HO47 := Lib.hid (show Only (fun b => b = g) v4 v7 from HO46.out.trans (Only.of_fresh hb67))
      have hz67 := hb67.size
      have hz46 := HO46.out.size
      have Hrd7 := Lib.hid (Hrd6.out.below hb67)
      have Hown7 := Lib.hid hown7
      refine hK.out _ _ (HS.out _ HO47.out) (fun hHeld => ?_)
      clear hK K hHeld hb67 hown7 HF Hcd Hrd6
      refine HeadW.one 11 rfl (by decide) (by kernel_rfl) fun K hK => ?_
      go_simp
      refine hK.out _ _ (HS.out _ HO47.out) (fun hHeld => ?_)
      clear hK K hHeld
      refine HeadW.one 12 rfl (by decide) (by kernel_rfl) fun K hK => ?_
      go_simp
      refine hK.out _ _ (HS.out _ (HO47.out.alloc _)) (fun hHeld => ?_)
      clear hK K hHeld
      refine fun _ => ⟨by kernel_rfl, ?_⟩
      obtain ⟨v8, hv8⟩ : ∃ v8, v8 = v7.alloc (.cells #[.int .i64 (u1 : Int), .int .i64 (u2 : Int), .int .i64 (u3 : Int), .slice A7 lc.length c7] 50) := ⟨_, rfl⟩
      rw [← hv8]
      have hb78 : Below v7.heap.size v7 v8 := by rw [hv8]; exact (Below.refl _ _).alloc (Nat.le_refl _) _
      have hU8 : Blk v8 v7.heap.size 50 #[.int .i64 (u1 : Int), .int .i64 (u2 : Int), .int .i64 (u3 : Int), .slice A7 lc.length c7] := by rw [hv8]; exact Blk.new _ _ _
      have hz78 := hU8.lt
      have hO48 : Only (fun b => b = g) v4 v8 := HO47.out.trans (Only.of_fresh hb78)
      have hown8 := Hown4.out.only hO48 fun b h1 h2 e => by omega
      have hcode8 := Own.below Hown7.out hb78 (Nat.le_refl _)
      have hrd8 := Hrd7.out.below hb78
      have hX8 := HX4.out.only hO48 hgp
      have hO08 : Only (fun b => b = g ∨ b = pc) w v8 := HO0.out.trans ((HO4.out.trans hO48).mono fun _ _ e => .inl e)
      clear hv8 hb78 HO47 HO46 HO4 HO5v HX4 HH4 Hown4 Hrd7 Hown7 hO48 HS
      have hf4 := hown8.flen
      dsimp only at hf4
      refine wpList_app rfl (.tmp 33) (.tmp 44) eFun rfl rfl hown8.funs (m := 1) (us := [.int .i64 (u1 : Int), .int .i64 (u2 : Int), .int .i64 (u3 : Int), .slice A7 lc.length c7]) rfl (RV.of_blk hU8) rfl (by intro v hv; simp only [List.mem_cons, List.not_mem_nil, or_false] at hv; rcases hv with rfl | rfl | rfl | rfl <;> rfl) (by unfold maxLen; omega) (by omega) (by have := hO08.size; omega) (by intro h; cases h) ?_
      intro A9 c9 v9 hown9 hg9 hA9
      have hrow := Own.row hown8.funs
      dsimp only at hown9 hg9 hrow
      have hO9 : Only (fun b => AF.map (·.block) = some b) v8 v9 := Only.of_grown hg9 fun k e => e
      have hX9 := hX8.only hO9 fun e => by have := hrow _ e; omega
      have hrd9 := hrd8.only hO9 (fun e => by have := hrow _ e; omega) fun b o e h => by have := hrow _ h; have := (HA.out b o e).2; omega
      have hdata9 := Own.only hown8.data hO9 fun b o e h => own_ne hown8.funs hown8.data (by decide) b h (by rw [e]; rfl)
      have hcode9 := fun f (hf : f ∈ fs) => Own.only (hown8.code f hf) hO9 fun b o e h => own_ne hown8.funs (hown8.code f hf) (by decide) b h (by rw [e]; rfl)
      have hnew9 := Own.only hcode8 hO9 fun b o e h => own_ne hown8.funs hcode8 (by decide) b h (by rw [e]; rfl)
      have hO09 : Only (fun b => b = g ∨ b = pc) w v9 := hO08.more hO9 fun b hb h => by have := hrow _ h; omega
      have hz89 := hO9.size
      have hown9' : PrgOwn v9 w.heap.size ⟨(m : Int), AD, cD, d, A9, c9, fs ++ [⟨(u1 : Int), (u2 : Int), (u3 : Int), A7, c7, lc⟩]⟩ := by
        refine ⟨hdata9, by rw [List.length_append, List.flatMap_append]; exact hown9, fun f hf => ?_, fun f hf => ?_, by dsimp only; omega, by dsimp only; omega, hdl, by rw [List.length_append]; simp; omega, ApartF.push v0.heap.size hown8.apart (fun f hf b e => (Own.row (Hown0.out.code f hf) b e).2) (fun b e => by have := (Own.row hcode8 b e).1; omega)⟩
        · rcases List.mem_append.1 hf with hf | hf
          · exact hcode9 f hf
          · obtain rfl : f = ⟨(u1 : Int), (u2 : Int), (u3 : Int), A7, c7, lc⟩ := by simpa using hf
            exact hnew9.mono (by omega)
        · rcases List.mem_append.1 hf with hf | hf
          · exact hown8.ok f hf
          · obtain rfl : f = ⟨(u1 : Int), (u2 : Int), (u3 : Int), A7, c7, lc⟩ := by simpa using hf
            exact ⟨hl7.2, hl7.1, by dsimp only; omega, by dsimp only; omega, by dsimp only; omega, by dsimp only; omega, by dsimp only; omega, by dsimp only; omega⟩
      have hO910 : Only (fun b => b = pc) v9 (v9.setCell ⟨pc, 2, none⟩ (.slice A9 (fs.length + 1) c9)) := Only.setCell (S := fun b => b = pc) (p := ⟨pc, 2, none⟩) (Only.refl _ v9) (.inl rfl) _
      have hpf9 := hX9.frozen 2
      have hpc9 : v9.cell? ⟨pc, 2, none⟩ = some (.slice AF fs.length cF) := hX9.cell 2
      have hpl9 := hX9.lt
      have hat : At2 w (v9.setCell ⟨pc, 2, none⟩ (.slice A9 (fs.length + 1) c9)) g pc c A bs a2 ⟨(m : Int), AD, cD, d, A9, c9, fs ++ [⟨(u1 : Int), (u2 : Int), (u3 : Int), A7, c7, lc⟩]⟩ := by
        refine ⟨hrd9.only hO910 (fun e => hgp e.symm) fun b o e => (HA.out b o e).1, ?_, hown9'.only hO910 fun b h1 h2 e => by omega, hO09.trans (hO910.mono fun _ _ e => .inr e)⟩
        rw [List.length_append]
        exact hX9.set_ 2 _
      have HRn : Hid (R = wrapR (m : Int) d (readFuns bs (n - (fs.length + 1)) ((fs ++ [(⟨(u1 : Int), (u2 : Int), (u3 : Int), A7, c7, lc⟩ : FunM)]).map FunM.plain) a2)) := Lib.hid (by
        have hq2 : n - (fs.length + 1) = q := by have := Hq.out; omega
        rw [HRk.out, HFk.out, hq2, List.map_append]
        rfl)
      have Hat := Lib.hid hat
      have hfl2 : (fs ++ [(⟨(u1 : Int), (u2 : Int), (u3 : Int), A7, c7, lc⟩ : FunM)]).length = fs.length + 1 := by rw [List.length_append]; rfl
      have Hfl2 := Lib.hid hfl2
      generalize fs ++ [(⟨(u1 : Int), (u2 : Int), (u3 : Int), A7, c7, lc⟩ : FunM)] = fn at *
      clear hat hown9' hO910 hO09 hnew9 hcode9 hdata9 hrd9 hX9 hO9 hown9 hg9 hA9 hrow hX8 hrd8 hcode8 hown8 hO08 hU8 HRk HFk hfl2
      go_wp2_with fail
      exact ⟨⟨fs.length + 1, a2, fn, A9, c9, by omega, by go_num, Hat.out, Hfl2.out, HRn⟩, by simp [intOf]; omega⟩
    · obtain rfl : n = fs.length := by omega
      have HRe : Hid (R = .ok (PrgM.plain ⟨(m : Int), AD, cD, d, AF, cF, fs⟩) a) := Lib.hid (by
        have h := hRk.out
        rw [Nat.sub_self] at h
        exact h)
      have HFn := Lib.hid (show Dec2Post w g pc c A bs R (.returned (.tuple #[])) v0 from ⟨HO0.out, .inl ⟨_, a, HRe.out, rfl, Hrd0.out, HX0.out, Hown0.out⟩⟩)
      clear HRe hRk
      go_wp2_with fail
      go_end0
      exact HFn.out
end Go.Proofs.Ytadnjfoinmeloaa
