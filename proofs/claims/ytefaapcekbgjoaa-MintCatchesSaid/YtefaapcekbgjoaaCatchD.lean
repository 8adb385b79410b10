/- The walk of MintCatches' third closure. -/
import Derived.Test.YtefaapcekbgjoaaCatchC
import Derived.Test.YtefaapcekbgjoaaHeldT
namespace Go.Proofs.Ytefaapcekbgjoaa
open Go.RowKit

structure Catch3 (g c n pl pb po pr pf pg : Nat) (A : Option Addr) (bs : List UInt8) (f : Int) (w : World) (e : Ending) (w' : World) : Prop where
  e : e = .returned (.tuple #[])
  rd : Rd w' g A c [5, 6] 2 false 0
  cl : w'.cell? ⟨pl, 0, none⟩ = some (.int .i64 56)
  cg : w'.cell? ⟨pg, 0, none⟩ = some (.int .i64 (faultF bs n f))
  co : w'.cell? ⟨po, 0, none⟩ = some (.bool true)
  only : Only (fun b => b = g ∨ b = pl ∨ b = pg ∨ b = po) w w'
theorem faultF_ne {bs : List UInt8} {n : Nat} {f : Int} (hf : f ≠ 0) : faultF bs n f ≠ 0 := by
  unfold faultF
  split
  · exact hf
  · assumption
set_option maxRecDepth 100000 in
set_option maxHeartbeats 1000000 in
theorem catch3_any (g c n pl pb po pr pf pg : Nat) (A bA : Option Addr) (bc : Nat) (bs : List UInt8) (f : Int) (w : World) (h : Rd w g A c [5, 6] 0 false 0) (hl : bs.length ≤ 140737488351232) (hf : f ≠ 0) (hn : n ≤ 1000) {v1 v2 : Value}
    (hpl : w.cell? ⟨pl, 0, none⟩ = some v1) (hplf : w.frozen? ⟨pl, 0, none⟩ = false) (hpg : w.cell? ⟨pg, 0, none⟩ = some v2) (hpgf : w.frozen? ⟨pg, 0, none⟩ = false) (ho : w.cell? ⟨po, 0, none⟩ = some (.bool true)) (hof : w.frozen? ⟨po, 0, none⟩ = false)
    (hr : w.cell? ⟨pr, 0, none⟩ = some (.int .i64 (n : Int))) (hpf : w.cell? ⟨pf, 0, none⟩ = some (.int .i64 f)) (hpb : w.cell? ⟨pb, 0, none⟩ = some (.slice bA bs.length bc)) (hb : Sl w ⟨bA, bc, bs⟩)
    (hgo : po ≠ g) (hgl : pl ≠ g) (hgg : pg ≠ g) (hgr : pr ≠ g) (hgf : pf ≠ g) (hgb : pb ≠ g) (hlo : pl ≠ po) (hlg : pl ≠ pg) (hog : po ≠ pg) (hlr : pr ≠ pl) (hlf : pf ≠ pl) (hlb : pb ≠ pl)
    (hbl : bs.length ≠ 0 → ∀ b o, bA = some ⟨b, o, none⟩ → b ≠ g ∧ b ≠ pl) (hA : ∀ b o, A = some ⟨b, o, none⟩ → b ≠ pl ∧ b ≠ pg ∧ b ≠ po) :
    Calls Try.prog 46 #[.pointer (some ⟨g, 0, none⟩), .pointer (some ⟨pl, 0, none⟩), .pointer (some ⟨pb, 0, none⟩), .pointer (some ⟨po, 0, none⟩), .pointer (some ⟨pr, 0, none⟩), .pointer (some ⟨pf, 0, none⟩), .pointer (some ⟨pg, 0, none⟩)] w (Catch3 g c n pl pb po pr pf pg A bs f w) := by
  have hmf : ∀ (fn : Fn) (first cap : Array Value) (w : World), (Instr.makeFunc fn first cap).run Try.prog w = .ok (.func fn first cap) w := fun _ _ _ _ => rfl
  have hll := block_lt_of_cell hpl
  have hlgg := block_lt_of_cell hpg
  have hol := block_lt_of_cell ho
  have hrl := block_lt_of_cell hr
  have hfl := block_lt_of_cell hpf
  have hbb := block_lt_of_cell hpb
  dsimp only at hll hlgg hol hrl hfl hbb
  have hgw := h.blk.lt
  have hn1 := rNum_any g c 0 A [5, 6] w h (by decide)
  rw [show rNumL [5, 6] 0 = .ok (5, 1) from by rfl] at hn1
  dsimp only at hn1
  have Hn1 := Lib.hid hn1
  have Hb := Lib.hid hb
  clear h hn1 hb
  go_enter Try.func46, Try.ntmps46
  go_wp2_with fail
  refine Hn1.out.mono ?_
  rintro e w1 ⟨rfl, hrd1, hO1⟩
  have hl1 : w1.cell? ⟨pl, 0, none⟩ = some v1 := by rw [(ocell hO1).1 _ _ hll hgl]; exact hpl
  have hlf1 : w1.frozen? ⟨pl, 0, none⟩ = false := by rw [(ocell hO1).2 _ _ hll hgl]; exact hplf
  have hb1 : w1.cell? ⟨pb, 0, none⟩ = some (.slice bA bs.length bc) := by rw [(ocell hO1).1 _ _ hbb hgb]; exact hpb
  have hz1 := hO1.size
  have hll1 : pl < w1.heap.size := by omega
  have hbb1 : pb < w1.heap.size := by omega
  have Hrd1 := Lib.hid hrd1
  have HO1 := Lib.hid hO1
  clear hrd1 hO1 Hn1
  go_wp2_with fail
  obtain ⟨w2, hw2⟩ : ∃ w2, w2 = w1.setCell ⟨pl, 0, none⟩ (.int .i64 5) := ⟨_, rfl⟩
  rw [← hw2]
  have hset2 : Only (fun b => b = pl) w1 w2 := by rw [hw2]; exact (Only.refl (fun b => b = pl) w1).setCell (p := ⟨pl, 0, none⟩) (.inl rfl) _
  have hO2 : Only (fun b => b = g ∨ b = pl) w w2 := (HO1.out.mono fun _ _ e => .inl e).trans (hset2.mono fun _ _ e => .inr e)
  have hl2 : w2.cell? ⟨pl, 0, none⟩ = some (.int .i64 5) := by rw [hw2]; exact World.cell?_setCell_same _ _ _ hl1
  have hlf2 : w2.frozen? ⟨pl, 0, none⟩ = false := by rw [hw2]; simpa using hlf1
  have k2 := fun (q : Nat) (hq : q < w.heap.size) (h1 : q ≠ g) (h2 : q ≠ pl) => (ocell hO2).1 q 0 hq (by omega)
  have kf2 := fun (q : Nat) (hq : q < w.heap.size) (h1 : q ≠ g) (h2 : q ≠ pl) => (ocell hO2).2 q 0 hq (by omega)
  have ho2 : w2.cell? ⟨po, 0, none⟩ = some (.bool true) := by rw [k2 po hol hgo (Ne.symm hlo)]; exact ho
  have hof2 : w2.frozen? ⟨po, 0, none⟩ = false := by rw [kf2 po hol hgo (Ne.symm hlo)]; exact hof
  have hr2 : w2.cell? ⟨pr, 0, none⟩ = some (.int .i64 (n : Int)) := by rw [k2 pr hrl hgr hlr]; exact hr
  have hf2 : w2.cell? ⟨pf, 0, none⟩ = some (.int .i64 f) := by rw [k2 pf hfl hgf hlf]; exact hpf
  have hg2 : w2.cell? ⟨pg, 0, none⟩ = some v2 := by rw [k2 pg hlgg hgg (Ne.symm hlg)]; exact hpg
  have hgf2 : w2.frozen? ⟨pg, 0, none⟩ = false := by rw [kf2 pg hlgg hgg (Ne.symm hlg)]; exact hpgf
  have hz2 := hO2.size
  have hrd2 : Rd w2 g A c [5, 6] 1 false 0 := Hrd1.out.only hset2 (fun e => hgl e.symm) fun b o e => (hA b o e).1
  have hb2 : Sl w2 ⟨bA, bc, bs⟩ := ⟨Hb.out.rv.only hO2 (fun hne b o e => by have := hbl (fun h0 => hne (by rw [List.eq_nil_of_length_eq_zero h0]; rfl)) b o e; omega), Hb.out.nil⟩
  have hread := read_any ⟨bA, bc, bs⟩ w2 hb2 hl 47 #[] #[.pointer (some ⟨po, 0, none⟩), .pointer (some ⟨pr, 0, none⟩), .pointer (some ⟨pf, 0, none⟩)] (fun b => b = po)
    (fun g' at_ o f' wx => f' = faultF bs n f ∧ wx.cell? ⟨po, 0, none⟩ = some (.bool true) ∧ po < wx.heap.size)
    (fun g' wx => by go_simp)
    (fun g' c' A' wx hg' hbx hrdx hAx => by
      have hzx := hbx.size
      have hox : wx.cell? ⟨po, 0, none⟩ = some (.bool true) := by rw [(bcell hbx).1 _ _ (by omega)]; exact ho2
      have hofx : wx.frozen? ⟨po, 0, none⟩ = false := by rw [(bcell hbx).2 _ _ (by omega)]; exact hof2
      have hrx : wx.cell? ⟨pr, 0, none⟩ = some (.int .i64 (n : Int)) := by rw [(bcell hbx).1 _ _ (by omega)]; exact hr2
      have hfx : wx.cell? ⟨pf, 0, none⟩ = some (.int .i64 f) := by rw [(bcell hbx).1 _ _ (by omega)]; exact hf2
      refine (catch31_any g' c' n po pr pf A' bs f wx hrdx hl hf hn hox hofx hrx hfx (by omega) (fun b o e => by have := hAx b o e; omega)).mono ?_
      rintro e wy ⟨rfl, ⟨at_, hrdy⟩, hoy, hOy⟩
      exact ⟨at_, true, faultF bs n f, hrdy, ⟨rfl, hoy, block_lt_of_cell hoy⟩, hOy, .inl rfl⟩)
    (fun b hb => by omega)
  dsimp only at hread
  have Hread := Lib.hid hread
  have HO2 := Lib.hid hO2
  have Hrd2 := Lib.hid hrd2
  clear hread hO2 hrd2 hb2 k2 kf2 hset2 hw2 hl1 hlf1 hb1 hpl hplf hpg hpgf ho hof hr hpf hpb
  refine Hread.out.mono ?_
  rintro e w3 ⟨g', at_, o, f', wx, hg', ⟨rfl, hox, hpx⟩, rfl, hO3x, hO3⟩
  have ho3 : w3.cell? ⟨po, 0, none⟩ = some (.bool true) := by rw [(ocell hO3x).1 _ _ hpx (by omega)]; exact hox
  have hl3 : w3.cell? ⟨pl, 0, none⟩ = some (.int .i64 5) := by rw [(ocell hO3).1 _ _ (by omega) hlo]; exact hl2
  have hlf3 : w3.frozen? ⟨pl, 0, none⟩ = false := by rw [(ocell hO3).2 _ _ (by omega) hlo]; exact hlf2
  have hg3 : w3.cell? ⟨pg, 0, none⟩ = some v2 := by rw [(ocell hO3).1 _ _ (by omega) (Ne.symm hog)]; exact hg2
  have hgf3 : w3.frozen? ⟨pg, 0, none⟩ = false := by rw [(ocell hO3).2 _ _ (by omega) (Ne.symm hog)]; exact hgf2
  have hE : readE (faultF bs n f) at_ bs.length = faultF bs n f := by unfold readE; rw [if_pos (faultF_ne hf)]
  rw [hE]
  have hz3 := hO3.size
  have hrd3 := Hrd2.out.only hO3 (fun e => hgo e.symm) fun b o e => (hA b o e).2.2
  have HO3 := Lib.hid hO3
  have Hrd3 := Lib.hid hrd3
  have hlg3 : pg < w3.heap.size := by omega
  have hll3 : pl < w3.heap.size := by omega
  clear hO3x hO3 hrd3 Hread hE hox hpx hl2 hlf2 hg2 hgf2 ho2 hof2 hr2 hf2
  obtain ⟨F, hF⟩ : ∃ F, F = faultF bs n f := ⟨_, rfl⟩
  rw [← hF]
  have HF := Lib.hid hF
  clear hF
  go_wp2_with fail
  obtain ⟨w4, hw4⟩ : ∃ w4, w4 = w3.setCell ⟨pg, 0, none⟩ (.int .i64 F) := ⟨_, rfl⟩
  rw [← hw4]
  have hset4 : Only (fun b => b = pg) w3 w4 := by rw [hw4]; exact (Only.refl (fun b => b = pg) w3).setCell (p := ⟨pg, 0, none⟩) (.inl rfl) _
  have hg4 : w4.cell? ⟨pg, 0, none⟩ = some (.int .i64 F) := by rw [hw4]; exact World.cell?_setCell_same _ _ _ hg3
  have ho4 : w4.cell? ⟨po, 0, none⟩ = some (.bool true) := by rw [(ocell hset4).1 _ _ (by omega) hog]; exact ho3
  have hl4 : w4.cell? ⟨pl, 0, none⟩ = some (.int .i64 5) := by rw [(ocell hset4).1 _ _ hll3 hlg]; exact hl3
  have hlf4 : w4.frozen? ⟨pl, 0, none⟩ = false := by rw [(ocell hset4).2 _ _ hll3 hlg]; exact hlf3
  have hrd4 := Hrd3.out.only hset4 (fun e => hgg e.symm) fun b o e => (hA b o e).2.1
  have hz4 := hset4.size
  have hn4 := rNum_any g c 1 A [5, 6] w4.drew (hrd4.drewN 1) (by decide)
  rw [show rNumL [5, 6] 1 = .ok (6, 1) from by rfl] at hn4
  dsimp only at hn4
  have HO4 : Hid (Only (fun b => b = g ∨ b = pl ∨ b = pg ∨ b = po) w w4) := Lib.hid (((HO2.out.mono fun _ _ e => by rcases e with e | e; exact .inl e; exact .inr (.inl e)).trans (HO3.out.mono fun _ _ e => .inr (.inr (.inr e)))).trans (hset4.mono fun _ _ e => .inr (.inr (.inl e))))
  have Hn4 := Lib.hid hn4
  clear hw4 hset4 hrd4 hn4 hg3 hgf3 hl3 hlf3 ho3
  have hw50 : IntKind.i64.wrap 50 = 50 := by decide
  have hw56 : IntKind.i64.wrap 56 = 56 := by decide
  have hS0 : (fun w' : World => w'.cell? ⟨pl, 0, none⟩ = some (.int .i64 5) ∧ w'.frozen? ⟨pl, 0, none⟩ = false) w4.drew := ⟨hl4, hlf4⟩
  refine region_heldT 5 (fun w' => w'.cell? ⟨pl, 0, none⟩ = some (.int .i64 5) ∧ w'.frozen? ⟨pl, 0, none⟩ = false) (by kernel_rfl) (by decide) ?_
  refine HeadW.take 0 (v := .int .i64 5) rfl (by kernel_rfl) (by kernel_rfl) (by kernel_rfl) (by decide) (by decide) (fun _ _ _ hL => seqB_ready hL.1) (by kernel_rfl) (by kernel_rfl) (fun _ _ _ h => h) hS0 (.inl ⟨by rfl, by intro w hSw; (try dsimp only at hSw); go_simp⟩) ?_
  simp only [Act.put, List.setIfInBounds_toArray]
  refine HeadW.take 1 (v := .int .i64 50) rfl (by kernel_rfl) (by kernel_rfl) (by kernel_rfl) (by decide) (by decide) (fun _ _ _ hL => seqB_ready hL.1) (by kernel_rfl) (by kernel_rfl) (fun _ _ _ h => h) hS0 (.inl ⟨by rfl, by intro w hSw; (try dsimp only at hSw); go_simp⟩) ?_
  simp only [Act.put]
  refine HeadW.take 2 (v := .pointer (some ⟨g, 0, none⟩)) rfl (by kernel_rfl) (by kernel_rfl) (by kernel_rfl) (by decide) (by decide) (fun _ _ _ hL => seqB_ready hL.1) (by kernel_rfl) (by kernel_rfl) (fun _ _ _ h => h) hS0 (.inl ⟨by rfl, by intro w hSw; (try dsimp only at hSw); go_simp⟩) ?_
  simp only [Act.put]
  refine HeadW.one 3 rfl (by decide) (by kernel_rfl) fun K hK => ?_
  go_simp
  refine Hn4.out.mono ?_
  rintro e w5 ⟨rfl, hrd5, hO5⟩
  have hO5' : Only (fun b => b = g) w4 w5 := ((Only.refl (fun b => b = g) w4).drewN 1).trans hO5
  have hl5 : w5.cell? ⟨pl, 0, none⟩ = some (.int .i64 5) := by rw [(ocell hO5').1 _ _ (by omega) hgl]; exact hl4
  have hlf5 : w5.frozen? ⟨pl, 0, none⟩ = false := by rw [(ocell hO5').2 _ _ (by omega) hgl]; exact hlf4
  have hg5 : w5.cell? ⟨pg, 0, none⟩ = some (.int .i64 F) := by rw [(ocell hO5').1 _ _ (by omega) hgg]; exact hg4
  have ho5 : w5.cell? ⟨po, 0, none⟩ = some (.bool true) := by rw [(ocell hO5').1 _ _ (by omega) hgo]; exact ho4
  have hz5 := hO5'.size
  have HO5 := Lib.hid (HO4.out.trans (hO5'.mono fun _ _ e => .inl e))
  have Hrd5 := Lib.hid hrd5
  clear hO5 hO5' hrd5
  refine hK.out _ _ ⟨hl5, hlf5⟩ (fun hHeld => ?_)
  clear hK K hS0 hHeld
  refine HeadW.one 4 rfl (by decide) (by kernel_rfl) fun K hK => ?_
  go_simp
  refine hK.out _ _ ⟨hl5, hlf5⟩ (fun hHeld => ?_)
  refine fun _ => ⟨by kernel_rfl, ?_⟩
  clear hK K hHeld
  have hll5 : pl < w5.heap.size := by omega
  go_wp2_with fail
  go_end0
  have hset : Only (fun b => b = pl) w5 (w5.setCell ⟨pl, 0, none⟩ (.int .i64 56)) := (Only.refl (fun b => b = pl) w5).setCell (p := ⟨pl, 0, none⟩) (.inl rfl) _
  exact ⟨rfl, Hrd5.out.only hset (fun e => hgl e.symm) fun b o e => (hA b o e).1, World.cell?_setCell_same _ _ _ hl5, by rw [(ocell hset).1 _ _ (by omega) (Ne.symm hlg), ← HF.out]; exact hg5, by rw [(ocell hset).1 _ _ (by omega) (Ne.symm hlo)]; exact ho5, HO5.out.trans (hset.mono fun _ _ e => .inr (.inl e))⟩
end Go.Proofs.Ytefaapcekbgjoaa
