/- The walk of the law MintCatches. -/
import Derived.Test.YtefaapcekbgjoaaCatchD
import Derived.Test.YtefaapcekbgjoaaBigA
namespace Go.Proofs.Ytefaapcekbgjoaa
open Go.RowKit

set_option maxRecDepth 100000 in
set_option maxHeartbeats 2000000 in
theorem catches_walk (A0 : Option Addr) (c0 : Nat) (bs : List UInt8) (a1 a2 : Int) (late : Bool) (w : World) (hb : Sl w ⟨A0, c0, bs⟩) (hl : bs.length ≤ 140737488351232) :
    Calls Try.prog 8 #[.slice A0 bs.length c0, .int .i64 a1, .int .i64 a2, .bool late] w fun e w' => e = .returned (.bool true) ∧ Below w.heap.size w w' := by
  have hmf : ∀ (fn : Fn) (first cap : Array Value) (w : World), (Instr.makeFunc fn first cap).run Try.prog w = .ok (.func fn first cap) w := fun _ _ _ _ => rfl
  have Hb := Lib.hid hb
  clear hb
  obtain ⟨n, hn⟩ : ∃ n : Nat, (n : Int) = a1 % 20 := ⟨(a1 % 20).toNat, Int.toNat_of_nonneg (Int.emod_nonneg _ (by decide))⟩
  have hn2 : n ≤ 1000 := by have := Int.emod_lt_of_pos a1 (b := 20) (by decide); omega
  obtain ⟨q, hq⟩ : ∃ q : Int, q = a2 % 200 := ⟨_, rfl⟩
  have hq0 : 0 ≤ q := by rw [hq]; exact Int.emod_nonneg _ (by decide)
  have hq2 : q < 200 := by rw [hq]; exact Int.emod_lt_of_pos _ (by decide)
  go_enter Try.func8, Try.ntmps8
  go_wp2_with fail
  have hrd := fun w' => round_any a1 20 w' (by decide) (by decide)
  have hrd2 := fun w' => round_any a2 200 w' (by decide) (by decide)
  rw [← hn] at hrd
  rw [← hq] at hrd2
  have Hrd := Lib.hid hrd
  have Hrd2 := Lib.hid hrd2
  clear hrd hrd2 hn hq
  obtain ⟨w1, hw1⟩ : ∃ w1, w1 = ((w.alloc (.cells #[.slice A0 bs.length c0] 22)).alloc (.cells #[.int .i64 a1] 3)).alloc (.cells #[.bool late] 4) := ⟨_, rfl⟩
  rw [← hw1]
  have hb1 : Below w.heap.size w w1 := by rw [hw1]; exact (((Below.refl _ _).alloc (Nat.le_refl _) _).alloc (by simp) _).alloc (by simp; omega) _
  have hz1 : w1.heap.size = w.heap.size + 3 := by rw [hw1]; simp
  have hbx := boxes3 w 22 3 4 (.slice A0 bs.length c0) (.int .i64 a1) (.bool late)
  rw [← hw1] at hbx
  have Hb1 := Lib.hid hb1
  obtain ⟨hB1, hR1, hL1⟩ := hbx
  have hr1 : w1.cell? ⟨w.heap.size + 1, 0, none⟩ = some (.int .i64 a1) := hR1.cell 0
  have hrf1 := hR1.frozen 0
  have hrl1 := hR1.lt
  have HB1 := Lib.hid hB1
  have HR1 := Lib.hid hR1
  have HL1 := Lib.hid hL1
  clear hb1 hw1 hB1 hR1 hL1
  refine (Hrd.out _).mono ?_
  rintro e w1 ⟨rfl, rfl⟩
  go_wp2_with fail
  refine (Hrd2.out _).mono ?_
  rintro e _ ⟨rfl, rfl⟩
  clear Hrd Hrd2
  obtain ⟨w2, hw2⟩ : ∃ w2, w2 = w1.setCell ⟨w.heap.size + 1, 0, none⟩ (.int .i64 (n : Int)) := ⟨_, rfl⟩
  rw [← hw2]
  have hset2 : Only (fun b => b = w.heap.size + 1) w1 w2 := by rw [hw2]; exact (Only.refl (fun b => b = w.heap.size + 1) w1).setCell (p := ⟨w.heap.size + 1, 0, none⟩) (.inl rfl) _
  have hr2 : w2.cell? ⟨w.heap.size + 1, 0, none⟩ = some (.int .i64 (n : Int)) := by rw [hw2]; exact World.cell?_setCell_same _ _ _ hr1
  have hb2 : w2.cell? ⟨w.heap.size, 0, none⟩ = some (.slice A0 bs.length c0) := (HB1.out.only hset2 (by omega)).cell 0
  have hl2 : w2.cell? ⟨w.heap.size + 1 + 1, 0, none⟩ = some (.bool late) := (HL1.out.only hset2 (by omega)).cell 0
  have hz2 : w2.heap.size = w.heap.size + 3 := by rw [hw2]; simpa using hz1
  have Hb2 := Lib.hid (Hb1.out.trans (hset2.below (by omega) fun p hp e => by omega))
  obtain ⟨f, hf⟩ : ∃ f : Int, f = 1 + q := ⟨_, rfl⟩
  have hf0 : f ≠ 0 := by omega
  have hwf : IntKind.i64.wrap f = f := IntWalk.i64_in _ (by omega)
  rw [hf] at hwf
  clear hw2 hset2 HB1 HR1 HL1 Hb1 hr1 hrf1 hrl1 hz1
  go_wp2_with fail
  rw [← hf] at hwf ⊢
  have hf2 : f ≤ 200 ∧ 1 ≤ f := by omega
  obtain ⟨w3, hw3⟩ : ∃ w3, w3 = w2.alloc (.cells #[.int .i64 f] 37) := ⟨_, rfl⟩
  rw [← hw3]
  have hb23 : Below w2.heap.size w2 w3 := by rw [hw3]; exact (Below.refl _ _).alloc (Nat.le_refl _) _
  have hf3 : w3.cell? ⟨w.heap.size + 3, 0, none⟩ = some (.int .i64 f) := by
    rw [hw3, ← hz2]
    exact (Blk.new w2 _ #[_]).cell 0
  have hr3 : w3.cell? ⟨w.heap.size + 1, 0, none⟩ = some (.int .i64 (n : Int)) := by rw [(bcell hb23).1 _ _ (by omega)]; exact hr2
  have hb3 : w3.cell? ⟨w.heap.size, 0, none⟩ = some (.slice A0 bs.length c0) := by rw [(bcell hb23).1 _ _ (by omega)]; exact hb2
  have hl3 : w3.cell? ⟨w.heap.size + 1 + 1, 0, none⟩ = some (.bool late) := by rw [(bcell hb23).1 _ _ (by omega)]; exact hl2
  have hz3 : w3.heap.size = w.heap.size + 4 := by rw [hw3]; simp [hz2]
  have hB3 : Below w.heap.size w w3 := Hb2.out.trans (hb23.mono (by omega))
  have hF0 : faultF bs n f ≠ 0 := faultF_ne hf0
  obtain ⟨F, hF⟩ : ∃ F, F = faultF bs n f := ⟨_, rfl⟩
  have hE : ∀ k, readE F k bs.length = F := fun k => by unfold readE; rw [if_pos (by rw [hF]; exact hF0)]
  have hread := read_any ⟨A0, c0, bs⟩ w3 (Hb.out.below hB3) hl 40 #[] #[.pointer (some ⟨w.heap.size + 1, 0, none⟩), .pointer (some ⟨w.heap.size + 3, 0, none⟩)] (fun _ => False)
    (fun g' at_ o f' wx => f' = F)
    (fun g' wx => by go_simp)
    (fun g' c' A' wx hg' hbx hrdx hAx => by
      refine (catch1_any g' c' n (w.heap.size + 1) (w.heap.size + 3) A' bs f wx hrdx hl hf0 hn2 (by rw [(bcell hbx).1 _ _ (by omega)]; exact hr3) (by rw [(bcell hbx).1 _ _ (by omega)]; exact hf3) (by omega) (by omega)).mono ?_
      rintro e wy ⟨rfl, ⟨at_, hrdy⟩, hOy⟩
      rw [← hF] at hrdy
      exact ⟨at_, true, F, hrdy, rfl, hOy.mono fun _ _ e => .inl e, .inr ⟨rfl, by rw [hF]; exact hF0⟩⟩)
    (fun b hb => hb.elim)
  dsimp only at hread
  have Hread := Lib.hid hread
  have HB3 := Lib.hid hB3
  have HF := Lib.hid hF
  have HE := Lib.hid hE
  have hF0' : F ≠ 0 := by rw [hF]; exact hF0
  clear hread hB3 hb23 hw3 hr2 hb2 hl2 hz2 Hb2 hwf hf hF hE hF0
  refine Hread.out.mono ?_
  rintro e w4 ⟨g', at_, o, f', wx, hg', hfe, rfl, hO4x, hO4⟩
  rw [hfe, HE.out]
  clear hfe
  have hb34 : Below w3.heap.size w3 w4 := hO4.below (Nat.le_refl _) fun p hp e => e
  have hf4 : w4.cell? ⟨w.heap.size + 3, 0, none⟩ = some (.int .i64 f) := by rw [(bcell hb34).1 _ _ (by omega)]; exact hf3
  have hr4 : w4.cell? ⟨w.heap.size + 1, 0, none⟩ = some (.int .i64 (n : Int)) := by rw [(bcell hb34).1 _ _ (by omega)]; exact hr3
  have hb4 : w4.cell? ⟨w.heap.size, 0, none⟩ = some (.slice A0 bs.length c0) := by rw [(bcell hb34).1 _ _ (by omega)]; exact hb3
  have hl4 : w4.cell? ⟨w.heap.size + 1 + 1, 0, none⟩ = some (.bool late) := by rw [(bcell hb34).1 _ _ (by omega)]; exact hl3
  have hz4 : w.heap.size + 4 ≤ w4.heap.size := by have := hb34.size; omega
  have HB4 := Lib.hid (HB3.out.trans (hb34.mono (by omega)))
  have hlt4 : w.heap.size < w4.heap.size := by omega
  clear hO4x hO4 hb34 hf3 hr3 hb3 hl3 hz3 HB3 Hread
  go_wp2_with fail
  obtain ⟨w5, hw5⟩ : ∃ w5, w5 = w4.alloc (.cells #[.bool false] 4) := ⟨_, rfl⟩
  rw [← hw5]
  have hb45 : Below w4.heap.size w4 w5 := by rw [hw5]; exact (Below.refl _ _).alloc (Nat.le_refl _) _
  have hoB : Blk w5 w4.heap.size 4 #[.bool false] := by rw [hw5]; exact Blk.new _ _ _
  have ho5 : w5.cell? ⟨w4.heap.size, 0, none⟩ = some (.bool false) := hoB.cell 0
  have hof5 : w5.frozen? ⟨w4.heap.size, 0, none⟩ = false := hoB.frozen 0
  have hol5 := hoB.lt
  have hf5 : w5.cell? ⟨w.heap.size + 3, 0, none⟩ = some (.int .i64 f) := by rw [(bcell hb45).1 _ _ (by omega)]; exact hf4
  have hr5 : w5.cell? ⟨w.heap.size + 1, 0, none⟩ = some (.int .i64 (n : Int)) := by rw [(bcell hb45).1 _ _ (by omega)]; exact hr4
  have hb5 : w5.cell? ⟨w.heap.size, 0, none⟩ = some (.slice A0 bs.length c0) := by rw [(bcell hb45).1 _ _ (by omega)]; exact hb4
  have hl5 : w5.cell? ⟨w.heap.size + 1 + 1, 0, none⟩ = some (.bool late) := by rw [(bcell hb45).1 _ _ (by omega)]; exact hl4
  have hB5 : Below w.heap.size w w5 := HB4.out.trans (hb45.mono (by omega))
  have hread := read_any ⟨A0, c0, bs⟩ w5 (Hb.out.below hB5) hl 42 #[] #[.pointer (some ⟨w.heap.size + 1 + 1, 0, none⟩), .pointer (some ⟨w4.heap.size, 0, none⟩), .pointer (some ⟨w.heap.size + 1, 0, none⟩), .pointer (some ⟨w.heap.size + 3, 0, none⟩)] (fun b => b = w4.heap.size)
    (fun g' at_ o f' wx => f' = F ∧ wx.cell? ⟨w4.heap.size, 0, none⟩ = some (.bool true) ∧ wx.frozen? ⟨w4.heap.size, 0, none⟩ = false)
    (fun g' wx => by go_simp)
    (fun g' c' A' wx hg' hbx hrdx hAx => by
      refine (catch2_any late g' c' n (w.heap.size + 1 + 1) w4.heap.size (w.heap.size + 1) (w.heap.size + 3) A' bs f wx hrdx hl hf0 hn2 (by rw [(bcell hbx).1 _ _ (by omega)]; exact hl5) (by rw [(bcell hbx).1 _ _ (by omega)]; exact ho5) (by rw [(bcell hbx).2 _ _ (by omega)]; exact hof5)
        (by rw [(bcell hbx).1 _ _ (by omega)]; exact hr5) (by rw [(bcell hbx).1 _ _ (by omega)]; exact hf5) (by omega) (by omega) (by omega) (fun b o e => by have := hAx b o e; omega)).mono ?_
      rintro e wy ⟨⟨at_, hrdy⟩, hoy, hofy, hOy, he⟩
      rw [← HF.out] at hrdy
      refine ⟨at_, true, F, hrdy, ⟨rfl, hoy, hofy⟩, hOy, ?_⟩
      rcases he with he | he
      · exact .inl he
      · exact .inr ⟨he, hF0'⟩)
    (fun b hb => by omega)
  dsimp only at hread
  have Hread := Lib.hid hread
  have HB5 := Lib.hid hB5
  clear hread hB5 hb45 hw5 hoB ho5 hof5 hf4 hr4 hb4 hl4 HB4
  refine Hread.out.mono ?_
  rintro e w6 ⟨g', at_, o, f', wx, hg', ⟨hfe, hox, hofx⟩, rfl, hO6x, hO6⟩
  rw [hfe, HE.out]
  clear hfe
  have hpx := block_lt_of_cell hox
  have ho6 : w6.cell? ⟨w4.heap.size, 0, none⟩ = some (.bool true) := by rw [(ocell hO6x).1 w4.heap.size 0 hpx (by omega)]; exact hox
  have hf6 : w6.cell? ⟨w.heap.size + 3, 0, none⟩ = some (.int .i64 f) := by rw [(ocell hO6).1 _ _ (by omega) (by omega)]; exact hf5
  have hr6 : w6.cell? ⟨w.heap.size + 1, 0, none⟩ = some (.int .i64 (n : Int)) := by rw [(ocell hO6).1 _ _ (by omega) (by omega)]; exact hr5
  have hb6 : w6.cell? ⟨w.heap.size, 0, none⟩ = some (.slice A0 bs.length c0) := by rw [(ocell hO6).1 _ _ (by omega) (by omega)]; exact hb5
  have hof6 : w6.frozen? ⟨w4.heap.size, 0, none⟩ = false := by rw [(ocell hO6x).2 w4.heap.size 0 hpx (by omega)]; exact hofx
  have hz6 := hO6.size
  have hlt6 : w.heap.size < w6.heap.size := by omega
  have HB6 := Lib.hid (HB5.out.trans (hO6.below (by omega) fun p hp e => by omega))
  clear hO6x hO6 hox hofx hpx hf5 hr5 hb5 hl5 HB5 Hread
  go_wp2_with fail
  obtain ⟨w7, hw7⟩ : ∃ w7, w7 = ((w6.alloc (.cells #[.int .i64 0] 37)).alloc (.cells #[.int .i64 0] 3)).alloc (.cells #[.int .u8 5, .int .u8 6] 5) := ⟨_, rfl⟩
  rw [← hw7]
  have hb67 : Below w6.heap.size w6 w7 := by rw [hw7]; exact (((Below.refl _ _).alloc (Nat.le_refl _) _).alloc (by simp) _).alloc (by simp; omega) _
  have hgB : Blk w7 w6.heap.size 37 #[.int .i64 0] := by rw [hw7]; exact ((Blk.new w6 _ _).alloc _).alloc _
  have hlB : Blk w7 (w6.heap.size + 1) 3 #[.int .i64 0] := by
    rw [hw7]
    have h := (Blk.new (w6.alloc (.cells #[.int .i64 0] 37)) 3 #[.int .i64 0]).alloc (.cells #[.int .u8 5, .int .u8 6] 5)
    rw [World.size_alloc] at h
    exact h
  have hyB : Blk w7 (w6.heap.size + 1 + 1) 5 #[.int .u8 5, .int .u8 6] := by
    rw [hw7]
    have h := Blk.new ((w6.alloc (.cells #[.int .i64 0] 37)).alloc (.cells #[.int .i64 0] 3)) 5 #[.int .u8 5, .int .u8 6]
    rw [World.size_alloc, World.size_alloc] at h
    exact h
  have hz7 := hyB.lt
  have ho7 : w7.cell? ⟨w4.heap.size, 0, none⟩ = some (.bool true) := by rw [(bcell hb67).1 _ _ (by omega)]; exact ho6
  have hof7 : w7.frozen? ⟨w4.heap.size, 0, none⟩ = false := by rw [(bcell hb67).2 _ _ (by omega)]; exact hof6
  have hf7 : w7.cell? ⟨w.heap.size + 3, 0, none⟩ = some (.int .i64 f) := by rw [(bcell hb67).1 _ _ (by omega)]; exact hf6
  have hr7 : w7.cell? ⟨w.heap.size + 1, 0, none⟩ = some (.int .i64 (n : Int)) := by rw [(bcell hb67).1 _ _ (by omega)]; exact hr6
  have hb7 : w7.cell? ⟨w.heap.size, 0, none⟩ = some (.slice A0 bs.length c0) := by rw [(bcell hb67).1 _ _ (by omega)]; exact hb6
  have hg7 : w7.cell? ⟨w6.heap.size, 0, none⟩ = some (.int .i64 0) := hgB.cell 0
  have hl7 : w7.cell? ⟨w6.heap.size + 1, 0, none⟩ = some (.int .i64 0) := hlB.cell 0
  have hB7 : Below w.heap.size w w7 := HB6.out.trans (hb67.mono (by omega))
  have hrow : RV w7 (some ⟨w6.heap.size + 1 + 1, 0, none⟩) (([5, 6] : List UInt8).map bv) := RV.of_blk hyB
  have hsb := Hb.out.below hB7
  have hbl : bs.length ≠ 0 → ∀ b o, A0 = some ⟨b, o, none⟩ → b < w.heap.size := fun h0 b o e => by
    obtain ⟨b', o', h1, h2, _⟩ := Hb.out.rv.at_ (by simp; omega)
    rw [show (Part.mk A0 c0 bs).A = A0 from rfl, e] at h1
    cases h1
    exact h2
  have hread := read_any ⟨some ⟨w6.heap.size + 1 + 1, 0, none⟩, 2, [5, 6]⟩ w7 ⟨hrow, fun h => by cases h⟩ (by simp) 46 #[] #[.pointer (some ⟨w6.heap.size + 1, 0, none⟩), .pointer (some ⟨w.heap.size, 0, none⟩), .pointer (some ⟨w4.heap.size, 0, none⟩), .pointer (some ⟨w.heap.size + 1, 0, none⟩), .pointer (some ⟨w.heap.size + 3, 0, none⟩), .pointer (some ⟨w6.heap.size, 0, none⟩)] (fun b => b = w6.heap.size + 1 ∨ b = w6.heap.size ∨ b = w4.heap.size)
    (fun g' at_ o f' wx => f' = 0 ∧ at_ = 2 ∧ wx.cell? ⟨w4.heap.size, 0, none⟩ = some (.bool true) ∧ wx.cell? ⟨w6.heap.size, 0, none⟩ = some (.int .i64 F) ∧ wx.cell? ⟨w6.heap.size + 1, 0, none⟩ = some (.int .i64 56))
    (fun g' wx => by go_simp)
    (fun g' c' A' wx hg' hbx hrdx hAx => by
      have k := fun (q : Nat) (hq : q < w7.heap.size) => (bcell hbx).1 q 0 hq
      have kf := fun (q : Nat) (hq : q < w7.heap.size) => (bcell hbx).2 q 0 hq
      refine (catch3_any g' c' n (w6.heap.size + 1) w.heap.size w4.heap.size (w.heap.size + 1) (w.heap.size + 3) w6.heap.size A' A0 c0 bs f wx hrdx hl hf0 hn2 (by rw [k _ (by omega)]; exact hl7) (by rw [kf _ (by omega)]; exact hlB.frozen 0) (by rw [k _ (by omega)]; exact hg7) (by rw [kf _ (by omega)]; exact hgB.frozen 0)
        (by rw [k _ (by omega)]; exact ho7) (by rw [kf _ (by omega)]; exact hof7) (by rw [k _ (by omega)]; exact hr7) (by rw [k _ (by omega)]; exact hf7) (by rw [k _ (by omega)]; exact hb7) (hsb.below hbx)
        (by omega) (by omega) (by omega) (by omega) (by omega) (by omega) (by omega) (by omega) (by omega) (by omega) (by omega) (by omega) (fun h0 b o e => by have := hbl h0 b o e; omega) (fun b o e => by have := hAx b o e; omega)).mono ?_
      rintro e wy ⟨he, hrdy, hcl, hcg, hco, hOy⟩
      rw [← HF.out] at hcg
      exact ⟨2, false, 0, hrdy, ⟨rfl, rfl, hco, hcg, hcl⟩, hOy.mono fun b _ e => by rcases e with e | e | e | e; exact .inl e; exact .inr (.inl e); exact .inr (.inr (.inl e)); exact .inr (.inr (.inr e)), .inl he⟩)
    (fun b hb => by omega)
  dsimp only at hread
  have Hread := Lib.hid hread
  have HB7 := Lib.hid hB7
  clear hread hB7 hb67 hgB hlB hyB hw7 ho6 hof6 hf6 hr6 hb6 HB6 ho7 hof7 hf7 hr7 hb7 hg7 hl7 hrow hsb hbl
  refine Hread.out.mono ?_
  rintro e w8 ⟨g', at_, o, f', wx, hg', ⟨hfe, hae, hox, hgx, hlx⟩, rfl, hO8x, hO8⟩
  rw [hfe, hae]
  have ho8 : w8.cell? ⟨w4.heap.size, 0, none⟩ = some (.bool true) := by rw [(ocell hO8x).1 w4.heap.size 0 (block_lt_of_cell hox) (by omega)]; exact hox
  have hg8 : w8.cell? ⟨w6.heap.size, 0, none⟩ = some (.int .i64 F) := by rw [(ocell hO8x).1 w6.heap.size 0 (block_lt_of_cell hgx) (by omega)]; exact hgx
  have hl8 : w8.cell? ⟨w6.heap.size + 1, 0, none⟩ = some (.int .i64 56) := by rw [(ocell hO8x).1 (w6.heap.size + 1) 0 (block_lt_of_cell hlx) (by omega)]; exact hlx
  have hz8 := hO8.size
  have h18 : w4.heap.size < w8.heap.size := by omega
  have h28 : w6.heap.size < w8.heap.size := by omega
  have h38 : w6.heap.size + 1 < w8.heap.size := by omega
  have HB8 := Lib.hid (HB7.out.trans (hO8.below (by omega) fun p hp e => by omega))
  rw [show readE 0 2 ([5, 6] : List UInt8).length = 0 from by rfl]
  have hFb : (F != 0) = true := by rw [bne_iff_ne]; exact hF0'
  clear hO8x hO8 hox hgx hlx hfe hae HB7 Hread
  go_wp2_with fail
  refine (head_any _).mono ?_
  rintro e w9 ⟨rfl, hb9⟩
  have hz9 := HB8.out.size
  have HB9 := Lib.hid (HB8.out.trans (hb9.mono hz9))
  clear hb9
  go_wp2_with fail
  go_ret
  exact ⟨rfl, HB9.out⟩
end Go.Proofs.Ytefaapcekbgjoaa
