/- The law's walk: a script of calls, Reads within Reads. -/
import Derived.Test.YtefaapcekbgjoaaMrV
import Derived.Test.YtefaapcekbgjoaaMrPr
import Derived.Test.YtefaapcekbgjoaaMrOv
import Derived.Test.YtefaapcekbgjoaaMrSm
import Derived.Test.YtefaapcekbgjoaaMrLb
namespace Go.Proofs.Ytefaapcekbgjoaa
open Go.RowKit

theorem CallsR.up {w : World} {B B' : Nat} {AC : Option Addr} {L : List PCall} (h : CallsR w B AC L) (hB : B ≤ B') : CallsR w B' AC L := by
  obtain ⟨TC, h1, h2, h3, h4⟩ := h.out
  exact ⟨TC, h1, h2, fun h0 b o e => Nat.lt_of_lt_of_le (h3 h0 b o e) hB, fun i c t h5 h6 => ⟨(h4 i c t h5 h6).1, (h4 i c t h5 h6).2.1, fun h0 b o e => Nat.lt_of_lt_of_le ((h4 i c t h5 h6).2.2 h0 b o e) hB⟩⟩
theorem CallsR.calls {w : World} {B : Nat} {AC : Option Addr} {L : List PCall} (h : CallsR w B AC L) : CallsM w B AC L := by
  obtain ⟨TC, h1, h2, h3, h4⟩ := h.out
  exact ⟨TC, h1, h2, h3, fun i c t h5 h6 => ⟨(h4 i c t h5 h6).1, (h4 i c t h5 h6).2.1.1, (h4 i c t h5 h6).2.2⟩⟩
theorem pread_all {L : List PCall} {B gp nC cC : Nat} {AC : Option Addr} (hnC : nC = L.length) : ∀ m, PReadC L B gp AC nC cC m := fun m => Nat.strongRecOn m fun _ ih => pread_step hnC ih
theorem ref_top {L : List PCall} {B gp cC : Nat} {AC : Option Addr} (w : World) (A : Option Addr) (cb : Nat) (bs : List UInt8) (hs : Sl w ⟨A, cb, bs⟩) (hbl : bs.length ≤ 140737488351232 ∧ bs.length ≤ cb) (hA : 0 < bs.length → ∀ b o, A = some ⟨b, o, none⟩ → b < B) (hC : CallsR w B AC L) (hB : B ≤ gp)
    (hb : Blk w gp 68 #[.slice AC L.length cC, .int .i64 0, .slice none 0 0, .slice none 0 0, .slice none 0 0, .int .i64 0]) :
    Calls Try.prog 38 #[pv gp, .slice A bs.length cb, .int .i64 400] w fun e w' =>
      ∃ (s2 : PS) (f : Int) (g : Nat) (T2 : List (Option Addr × Nat)) (l2 : Sl3), OutOf L bs s2 f ∧ e = .returned (.tuple #[.int .i64 f, .bool true]) ∧ PlM w' B gp AC L.length cC s2.at_ [g] s2.told T2 s2.ret s2.many l2 ∧ Only (fun b => B ≤ b) w w' := by
  have hP : PlM w B gp AC L.length cC ps0.at_ [] ps0.told [] ps0.ret ps0.many ⟨none, 0, none, 0, none, 0⟩ := ⟨hb, hB, Own.nil _ _ _ _, Own.nil _ _ _ _, rfl, (fun i x t h => by cases h), Own.nil _ _ _ _⟩
  have hR : RfM w B [] ps0.rs none := ⟨rfl, (fun i g r h => by cases h), (fun y g h => by cases h), (fun i j g g2 h => by cases h), (fun g h => by cases h)⟩
  refine (pread_all (gp := gp) (AC := AC) (cC := cC) (B := B) (L := L) rfl 400 ps0 [] [] ⟨none, 0, none, 0, none, 0⟩ 400 w A cb bs (by show min L.length 400 - 0 ≤ 400; omega) hC (Nat.le_trans hB (Nat.le_of_lt hb.lt)) hP hR (Nat.le_refl _) (Nat.le_refl _) (Nat.le_refl _) (Nat.zero_le _) hs hbl hA (by decide)).mono ?_
  rintro e w' ⟨out, T2, l2, g, hr, ho, hm⟩
  cases out with
  | ok s2 =>
    obtain ⟨hb2, rfl, h1, h2⟩ := hm
    exact ⟨s2, _, g, T2, l2, .inl ⟨hr, rfl⟩, rfl, h1, ho⟩
  | thrown j f s2 =>
    obtain ⟨hb2, hf, ⟨rfl, rfl⟩ | ⟨hj, -⟩, h1, h2⟩ := hm
    · exact ⟨s2, f, g, T2, l2, .inr ⟨hr, hf⟩, rfl, h1, ho⟩
    · exact absurd hj (Nat.not_lt_zero _)
theorem got_cells {w : World} {A : Option Addr} {told : List PGot} {TA : List (Option Addr × Nat)} (h : RV w A ((told.zip TA).flatMap fun x => gotCells x.1 x.2)) {k : Nat} {x : PGot} {t : Option Addr × Nat} (hx : told[k]? = some x) (ht : TA[k]? = some t) :
    ∃ b off, A = some ⟨b, off, none⟩ ∧ b < w.heap.size ∧ w.cell? ⟨b, off + k * 3, none⟩ = some (.int .i64 x.kind) ∧ w.cell? ⟨b, off + k * 3 + 1, none⟩ = some (.int .i64 x.n) ∧ w.cell? ⟨b, off + k * 3 + 2, none⟩ = some (.slice t.1 x.b.length t.2) := by
  have hz : (told.zip TA)[k]? = some (x, t) := by rw [List.getElem?_zip_eq_some]; exact ⟨hx, ht⟩
  have hcells := fun j (hj : j < 3) => flatMap_get (fun x : PGot × (Option Addr × Nat) => gotCells x.1 x.2) 3 (fun _ => rfl) (told.zip TA) k j (x, t) hz hj
  have hll : ((told.zip TA).flatMap fun x => gotCells x.1 x.2).length = (told.zip TA).length * 3 := length_flatMap_const _ 3 (fun _ => rfl) _
  have hl := (List.getElem?_eq_some_iff.1 hz).1
  obtain ⟨b, off, rfl, hb, hc⟩ := h.at_ (by rw [hll]; omega)
  exact ⟨b, off, rfl, hb, hc _ _ (hcells 0 (by omega)), by have := hc _ _ (hcells 1 (by omega)); rwa [← Nat.add_assoc] at this, by have := hc _ _ (hcells 2 (by omega)); rwa [← Nat.add_assoc] at this⟩
/-- A loop that looks. -/
structure LwR (n : Nat) (w7 : World) (vi : Value) (wr : World) : Prop where
  out : ∃ k m : Nat, k ≤ n ∧ vi = .int .i64 (k : Int) ∧ wr = w7.drewN m
set_option maxRecDepth 100000 in
set_option maxHeartbeats 20000000 in
theorem mintReads_walk (pA : Option Addr) (pc : Nat) (bs : List UInt8) (AC : Option Addr) (cC : Nat) (L : List PCall) (w : World) (hp : Sl w ⟨pA, pc, bs⟩) (hpl : bs.length ≤ 140737488351232 ∧ bs.length ≤ pc) (hC : CallsR w w.heap.size AC L) :
    Calls Try.prog 7 #[.slice pA bs.length pc, .slice AC L.length cC] w fun e w' => e = .returned (.bool true) ∧ Below w.heap.size w w' := by
  have hmf : ∀ (fn : Fn) (first cap : Array Value) (w : World), (Instr.makeFunc fn first cap).run Try.prog w = .ok (.func fn first cap) w := fun _ _ _ _ => rfl
  have hpA : 0 < bs.length → ∀ b o, pA = some ⟨b, o, none⟩ → b < w.heap.size := fun h0 b o e => by
    obtain ⟨b2, off, e2, hb2, -⟩ := hp.rv.at_ (by rw [List.length_map]; exact h0)
    dsimp only at e2
    rw [e] at e2
    injection e2 with e2
    injection e2 with e2 _
    omega
  obtain ⟨w1, hw1⟩ : ∃ w', w' = w.alloc (.cells #[.slice AC L.length cC, .int .i64 0, .slice none 0 0, .slice none 0 0, .slice none 0 0, .slice none 0 0, .bool false] 59) := ⟨_, rfl⟩
  obtain ⟨gs, hgs⟩ : ∃ g, g = w.heap.size := ⟨_, rfl⟩
  have hb1 : Below w.heap.size w w1 := by rw [hw1]; exact (Below.refl _ _).alloc (Nat.le_refl _) _
  have hS1 : Blk w1 gs 59 #[.slice AC L.length cC, .int .i64 0, .slice none 0 0, .slice none 0 0, .slice none 0 0, .slice none 0 0, .bool false] := by rw [hw1, hgs]; exact Blk.new _ _ _
  obtain ⟨w2, hw2⟩ : ∃ w', w' = w1.alloc (.cells #[pv gs, .int .i64 400] 62) := ⟨_, rfl⟩
  obtain ⟨gf, hgf⟩ : ∃ g, g = w1.heap.size := ⟨_, rfl⟩
  have hb12 : Below w1.heap.size w1 w2 := by rw [hw2]; exact (Below.refl _ _).alloc (Nat.le_refl _) _
  have hF2 : Blk w2 gf 62 #[pv gs, .int .i64 400] := by rw [hw2, hgf]; exact Blk.new _ _ _
  have hb2 : Below w.heap.size w w2 := hb1.trans (hb12.mono hb1.size)
  have hS2 := hS1.below hb12 hS1.lt
  have Hlend := Lib.hid (lend_any ⟨pA, pc, bs⟩ w2 (hp.below hb2) (by dsimp only; omega))
  have HC := Lib.hid hC
  have Hp := Lib.hid hp
  have Hb2 := Lib.hid hb2
  have HS2 := Lib.hid hS2
  have HF2 := Lib.hid hF2
  have Hw1 := Lib.hid hw1
  have Hgs := Lib.hid hgs
  have Hw2 := Lib.hid hw2
  have Hgf := Lib.hid hgf
  have HpA := Lib.hid hpA
  have Hpl := Lib.hid hpl
  have hgsl : w.heap.size ≤ gs := by omega
  clear hC hp hb1 hb12 hb2 hS1 hS2 hF2 hw1 hgs hw2 hgf hpA hpl
  go_enter Try.func7, Try.ntmps7
  go_upto_region 2 with (fail)
  rw [← Hw1.out, ← Hgs.out]
  clear Hw1
  go_upto_region 3 with (fail)
  rw [← Hw2.out, ← Hgf.out]
  clear Hw2
  go_wp2_with fail
  refine Hlend.out.mono ?_
  rintro e w3 ⟨gl, rfl, hgl, hlz, hb3⟩
  try dsimp only at hgl hlz hb3
  have hz2 := Hb2.out.size
  have hb03 : Below w.heap.size w w3 := Hb2.out.trans (hb3.mono hz2)
  have hmine : Sl w3 ⟨some ⟨gl, 0, none⟩, bs.length + 5, bs⟩ := by
    refine ⟨?_, fun h => by cases h⟩
    have h1 : RV w3 (some ⟨gl, 0, none⟩) (lentL bs 5 5) := by simpa using RV.of_blk hgl
    have h2 := h1.cut 0 bs.length
    simpa [lentL] using h2
  have hlS := HS2.out.lt
  have hread := read_top (fun b => b = gl) w3 ⟨some ⟨gl, 0, none⟩, bs.length + 5, bs⟩ gf hmine Hpl.out.1 ((HC.out.only (S := fun _ => False) (Only.of_fresh hb03) (fun _ e => e.elim)).calls) hgsl (fun b hb => by rw [hb]; exact hgl.lt) (HS2.out.below hb3 HS2.out.lt) (HF2.out.below hb3 HF2.out.lt)
  dsimp only at hread
  have Hread := Lib.hid hread
  have Hgl := Lib.hid hgl
  have Hlz := Lib.hid (show gs < gl ∧ w.heap.size ≤ gl from by omega)
  have Hb03 := Lib.hid hb03
  clear hread hgl hlz hmine hb3 hb03 Hlend hz2 hlS HF2 HS2
  go_wp2_with fail
  refine Hread.out.mono ?_
  clear Hread
  rintro e w4 ⟨s2, f, xs, ks, T2, l2, hout, hbd, rfl, hSt, hO4⟩
  have hgl4 : Blk w4 gl 5 (lentL bs 5 5).toArray := Hgl.out.only hO4 (fun e => by have := Hlz.out.1; omega)
  have hO04 : Only (fun b => w.heap.size ≤ b) w w4 := (Only.of_fresh Hb03.out).trans (hO4.mono fun b _ e => by rw [e]; exact hgsl)
  have hs4 : Sl w4 ⟨pA, pc, bs⟩ := Hp.out.only hO04 (fun b o h0 e hb => by have := HpA.out h0 b o e; omega)
  have Hlen := Lib.hid (show ∀ x ∈ s2.told, x.b.length ≤ 140737488351232 from by
    have hL : ∀ c ∈ L, c.b.length ≤ 140737488351232 := fun c hc => by
      obtain ⟨TC, h1, -, -, h4⟩ := HC.out.out
      obtain ⟨i, hi⟩ := List.mem_iff_getElem?.1 hc
      exact (h4 i c _ hi (List.getElem?_eq_getElem (by rw [h1]; exact (List.getElem?_eq_some_iff.1 hi).1))).2.1.1
    have h0 : ∀ r ∈ (ps0.push bs).rs, r.1.length ≤ 140737488351232 := fun r hr => by
      rw [List.mem_singleton.1 (show r ∈ [(bs, 0)] from hr)]; exact Hpl.out.1
    rcases hout with ⟨h1, -⟩ | ⟨h1, -⟩
    · exact (h1.blen hL h0 (fun x hx => by cases hx)).2
    · exact (h1.blen hL h0 (fun x hx => by cases hx)).2)
  have Hout := Lib.hid hout
  have Hbd := Lib.hid hbd
  have HSt := Lib.hid hSt
  have Hgl4 := Lib.hid hgl4
  have HO04 := Lib.hid hO04
  have Hs4 := Lib.hid hs4
  clear hgl4 hO4 hO04 hs4 hout hbd hSt
  go_wp2_with fail
  refine (back_any ⟨pA, pc, bs⟩ gl w4 Hs4.out (by have := Hpl.out.1; dsimp only; omega) Hgl4.out).mono ?_
  rintro e w5 ⟨rfl, hO5⟩
  have hSt5 := HSt.out.only hO5 (fun b ty hb n1 n2 e => n1 (blkT_eq (by rw [e] at hb; exact hb) Hgl4.out.ty)) (fun b e1 e2 => by
    obtain ⟨h1, -, -⟩ := ownG_form HSt.out.sc.ret b e1
    obtain ⟨cs, h2⟩ := own_ty HSt.out.sc.ret h1
    rw [e2] at h2
    exact absurd (blkT_eq h2.ty Hgl4.out.ty) (by decide)) (fun b e _ => e)
  have hO05 : Only (fun b => w.heap.size ≤ b) w w5 := HO04.out.trans (hO5.mono fun b _ e => by rw [e]; exact Hlz.out.2)
  obtain ⟨w6, hw6⟩ : ∃ w', w' = w5.alloc (.cells #[.slice AC L.length cC, .int .i64 0, .slice none 0 0, .slice none 0 0, .slice none 0 0, .int .i64 0] 68) := ⟨_, rfl⟩
  obtain ⟨gp, hgp⟩ : ∃ g, g = w5.heap.size := ⟨_, rfl⟩
  have hb56 : Below w5.heap.size w5 w6 := by rw [hw6]; exact (Below.refl _ _).alloc (Nat.le_refl _) _
  have hP6 : Blk w6 gp 68 #[.slice AC L.length cC, .int .i64 0, .slice none 0 0, .slice none 0 0, .slice none 0 0, .int .i64 0] := by rw [hw6, hgp]; exact Blk.new _ _ _
  have hO06 : Only (fun b => w.heap.size ≤ b) w w6 := hO05.trans (Only.of_fresh hb56)
  have hz5 := hO05.size
  have Href := Lib.hid (ref_top (B := gp) w6 pA pc bs (Hp.out.only hO06 (fun b o h0 e hb => by have := HpA.out h0 b o e; omega)) Hpl.out (fun h0 b o e => by have := HpA.out h0 b o e; omega) ((HC.out.only hO06 (fun b h => h)).up (by omega)) (Nat.le_refl gp) hP6)
  have HSt5 := Lib.hid hSt5
  have HO06 := Lib.hid hO06
  have Hw6 := Lib.hid hw6
  have Hgp := Lib.hid hgp
  have Hb56 := Lib.hid hb56
  clear hSt5 hO5 hO05 hO06 hw6 hgp hb56 hP6 HSt hz5
  go_upto_region 7 with (fail)
  rw [← Hw6.out, ← Hgp.out]
  clear Hw6
  go_wp2_with fail
  refine Href.out.mono ?_
  clear Href
  rintro e w7 ⟨s3, f3, g3, T3, l3, hout3, rfl, hP7, hO67⟩
  obtain ⟨rfl, rfl⟩ := Hout.out.det hout3
  have hb67 : Below w5.heap.size w6 w7 := by
    rw [← Hgp.out]
    exact hO67.below (by have := Hb56.out.size; have := Hgp.out; omega) (fun k hk h => by omega)
  have hSt7 := HSt5.out.below (Hb56.out.trans hb67)
  have hO07 : Only (fun b => w.heap.size ≤ b) w w7 := HO06.out.trans (hO67.mono fun b _ h => by have := HO06.out.size; have := Hgp.out; have := Hlz.out; have := Hb56.out.size; have := HO04.out.size; have h5 := HSt5.out.sc.blk.lt; omega)
  have s3 : w7.cell? ⟨gs, 3, none⟩ = some (.slice l2.AK s2.many l2.cK) := by rw [← hSt7.sc.many]; exact hSt7.sc.blk.cell 3
  have s4 : w7.cell? ⟨gs, 4, none⟩ = some (.slice l2.AT s2.told.length l2.cT) := hSt7.sc.blk.cell 4
  have s5 : w7.cell? ⟨gs, 5, none⟩ = some (.slice l2.AE s2.ret.length l2.cE) := hSt7.sc.blk.cell 5
  have s6 : w7.cell? ⟨gs, 6, none⟩ = some (.bool false) := hSt7.sc.blk.cell 6
  have sl := hSt7.sc.blk.lt
  have p3 : w7.cell? ⟨gp, 3, none⟩ = some (.slice l3.AT s2.told.length l3.cT) := hP7.blk.cell 3
  have p4 : w7.cell? ⟨gp, 4, none⟩ = some (.slice l3.AE s2.ret.length l3.cE) := hP7.blk.cell 4
  have p5 : w7.cell? ⟨gp, 5, none⟩ = some (.int .i64 (s2.many : Int)) := hP7.blk.cell 5
  have pl := hP7.blk.lt
  have hbt : s2.told.length ≤ 400 ∧ s2.ret.length ≤ 401 ∧ s2.many ≤ 401 := by
    obtain ⟨c1, c2, c3, c4⟩ := Hbd.out
    exact ⟨by omega, by omega, by omega⟩
  have HSt7 := Lib.hid hSt7
  have HP7 := Lib.hid hP7
  have HO07 := Lib.hid hO07
  clear hout3 hP7 hO67 hb67 hSt7 hO07 HSt5 HO06 Hgp Hb56 Hout
  go_wp2_with fail
  refine region_quiet (fun w' => ∃ n, w' = w7.drewN n) (by kernel_rfl) (by kernel_rfl) ⟨1, rfl⟩ ?_
  repeat (go_big_quiet_step (fail))
  refine wpQuiet_nil ?_
  rintro _ ⟨m0, rfl⟩
  clear s3 s6 p5
  go_wp2_with fail
  go_loopw [13] (fun vi wr => LwR s2.told.length w7 vi wr) (fun vi _ => s2.told.length - (intOf vi).toNat)
  case atStart => exact ⟨0, m0, Nat.zero_le _, rfl, rfl⟩
  case round =>
    rename World => wr
    obtain ⟨k, m, hk, rfl, hwr⟩ := hrel.out
    subst hwr
    clear hrel
    by_cases hlt : k < s2.told.length
    · obtain ⟨x, hx⟩ : ∃ x, s2.told[k]? = some x := ⟨_, List.getElem?_eq_getElem hlt⟩
      obtain ⟨t, ht⟩ : ∃ t, T2[k]? = some t := ⟨_, List.getElem?_eq_getElem (by rw [HSt7.out.sc.tlen]; exact hlt)⟩
      obtain ⟨u, hu⟩ : ∃ u, T3[k]? = some u := ⟨_, List.getElem?_eq_getElem (by rw [HP7.out.tlen]; exact hlt)⟩
      obtain ⟨b1, o1, e1, hb1, t0, t1, t2⟩ := got_cells (RV.of_own HSt7.out.sc.told) hx ht
      obtain ⟨b2, o2, e2, hb2, u0, u1, u2⟩ := got_cells (RV.of_own HP7.out.tol) hx hu
      have hbt1 := HSt7.out.sc.tb k x t hx ht
      have hbt2 := HP7.out.tb k x u hx hu
      rw [e1] at s4
      rw [e2] at p3
      have hxl : x.b.length ≤ 9223372036854775807 := Nat.le_trans (Hlen.out x (List.mem_of_getElem? hx)) (by decide)
      have hsame := fun n => same_rv t.1 u.1 t.2 u.2 x.b x.b (w7.drewN n) (hbt1.rv.below (below_drewN (Below.refl _ _) n)) (hbt2.rv.below (below_drewN (Below.refl _ _) n)) hxl hxl
      rw [show (x.b == x.b) = true from by simp] at hsame
      have Hsame := Lib.hid hsame
      have hkI : (k : Int) < (s2.told.length : Int) := by omega
      have hwk : IntKind.i64.wrap ((k : Int) + 1) = (k : Int) + 1 := by rw [IntKind.wrap_i64]; omega
      clear hx ht hu hbt1 hbt2 hsame hxl
      go_wp2_with fail
      refine region_quiet (fun w' => ∃ n, w' = w7.drewN n) (by kernel_rfl) (by kernel_rfl) ⟨m + 1, rfl⟩ ?_
      repeat (go_big_quiet_step (exact Calls.quiet_of (Hsame.out _)))
      refine wpQuiet_nil ?_
      rintro _ ⟨n, rfl⟩
      have HR := Lib.hid (show LwR s2.told.length w7 (.int .i64 ((k : Int) + 1)) (w7.drewN n) from ⟨k + 1, n, hlt, rfl, rfl⟩)
      go_wp2_with fail
      refine ⟨?_, ?measure⟩
      case measure => simp [intOf]; omega
      exact HR.out
    obtain rfl : k = s2.told.length := by omega
    go_wp2_with fail
    clear s4 p3
    go_loopw [14] (fun vi wr => LwR s2.ret.length w7 vi wr) (fun vi _ => s2.ret.length - (intOf vi).toNat)
    case atStart => exact ⟨0, m, Nat.zero_le _, rfl, rfl⟩
    case round =>
      rename World => wr
      obtain ⟨k, m2, hk, rfl, hwr⟩ := hrel.out
      subst hwr
      clear hrel
      by_cases hlt : k < s2.ret.length
      · obtain ⟨x, hx⟩ : ∃ x, s2.ret[k]? = some x := ⟨_, List.getElem?_eq_getElem hlt⟩
        obtain ⟨b1, o1, e1, hb1, hc1⟩ := (RV.of_own HSt7.out.sc.ret).at_ (by rw [List.length_map]; omega)
        obtain ⟨b2, o2, e2, hb2, hc2⟩ := (RV.of_own HP7.out.rt).at_ (by rw [List.length_map]; omega)
        have t0 := hc1 k (.int .i64 x) (by rw [List.getElem?_map, hx]; rfl)
        have u0 := hc2 k (.int .i64 x) (by rw [List.getElem?_map, hx]; rfl)
        rw [e1] at s5
        rw [e2] at p4
        have hkI : (k : Int) < (s2.ret.length : Int) := by omega
        have hwk : IntKind.i64.wrap ((k : Int) + 1) = (k : Int) + 1 := by rw [IntKind.wrap_i64]; omega
        clear hx hc1 hc2
        go_wp2_with fail
        refine region_quiet (fun w' => ∃ n, w' = w7.drewN n) (by kernel_rfl) (by kernel_rfl) ⟨m2 + 1, rfl⟩ ?_
        repeat (go_big_quiet_step (fail))
        refine wpQuiet_nil ?_
        rintro _ ⟨n, rfl⟩
        have HR := Lib.hid (show LwR s2.ret.length w7 (.int .i64 ((k : Int) + 1)) (w7.drewN n) from ⟨k + 1, n, hlt, rfl, rfl⟩)
        go_wp2_with fail
        refine ⟨?_, ?measure⟩
        case measure => simp [intOf]; omega
        exact HR.out
      obtain rfl : k = s2.ret.length := by omega
      go_wp2_with fail
      clear s5 p4 pl
      have s3 : w7.cell? ⟨gs, 3, none⟩ = some (.slice l2.AK s2.many l2.cK) := by rw [← HSt7.out.sc.many]; exact HSt7.out.sc.blk.cell 3
      go_loopw [15] (fun vi wr => LwR s2.many w7 vi wr) (fun vi _ => s2.many - (intOf vi).toNat)
      case atStart => exact ⟨0, m2, Nat.zero_le _, rfl, rfl⟩
      case round =>
        rename World => wr
        obtain ⟨k, m3, hk, rfl, hwr⟩ := hrel.out
        subst hwr
        clear hrel
        by_cases hlt : k < s2.many
        · obtain ⟨x, hx⟩ : ∃ x, ks[k]? = some x := ⟨_, List.getElem?_eq_getElem (by rw [HSt7.out.sc.many]; exact hlt)⟩
          obtain ⟨b1, o1, e1, hb1, hc1⟩ := (RV.of_own HSt7.out.sc.kept).at_ (by rw [List.length_map, HSt7.out.sc.many]; omega)
          have t0 := hc1 k (pv x.g) (by rw [List.getElem?_map, hx]; rfl)
          rw [e1] at s3
          have hkI : (k : Int) < (s2.many : Int) := by omega
          have hwk : IntKind.i64.wrap ((k : Int) + 1) = (k : Int) + 1 := by rw [IntKind.wrap_i64]; omega
          obtain ⟨bsx, ax, fx, hov⟩ : ∃ bs a f, RdT w7 x bs a true f := by
            rcases HSt7.out.rd.over x (List.mem_of_getElem? hx) with ⟨i, hi, -⟩ | h
            · exact absurd hi (Nat.not_lt_zero _)
            · exact h
          have Hov := Lib.hid (over_any (hov.below (below_drewN (Below.refl _ w7) m3)).rd)
          clear hx hc1 hov e1
          go_wp2_with fail
          refine Hov.out.mono ?_
          rintro e wz ⟨rfl, rfl⟩
          have HR := Lib.hid (show LwR s2.many w7 (.int .i64 ((k : Int) + 1)) (w7.drewN m3) from ⟨k + 1, m3, hlt, rfl, rfl⟩)
          clear Hov
          go_wp2_with fail
          refine ⟨?_, ?measure⟩
          case measure => simp [intOf]; omega
          exact HR.out
        obtain rfl : k = s2.many := by omega
        go_wp2_with fail
        refine (head_any _).mono ?_
        rintro e w9 ⟨rfl, hb9⟩
        have hfin := HO07.out.trans ((Only.of_fresh (below_drewN (Below.refl _ w7) m3)).trans (Only.of_fresh hb9))
        have Hfin := Lib.hid (hfin.below (Nat.le_refl _) (fun k hk h => by omega))
        clear hfin hb9
        go_wp2_with fail
        go_ret
        exact ⟨rfl, Hfin.out⟩
end Go.Proofs.Ytefaapcekbgjoaa
