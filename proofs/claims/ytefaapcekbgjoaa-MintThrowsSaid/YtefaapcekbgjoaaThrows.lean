/- The walk of the law MintThrows. -/
import Derived.Test.YtefaapcekbgjoaaThrG
import Derived.Test.YtefaapcekbgjoaaBigA
namespace Go.Proofs.Ytefaapcekbgjoaa
open Go.RowKit

set_option maxRecDepth 100000 in
set_option maxHeartbeats 2000000 in
theorem throws_walk (A0 : Option Addr) (c0 : Nat) (bs : List UInt8) (a1 a2 a3 a4 : Int) (w : World) (hb : Sl w ⟨A0, c0, bs⟩) (hl : bs.length ≤ 140737488351232) :
    Calls Try.prog 6 #[.slice A0 bs.length c0, .int .i64 a1, .int .i64 a2, .int .i64 a3, .int .i64 a4] w fun e w' => e = .returned (.bool true) ∧ Below w.heap.size w w' := by
  have hmf : ∀ (fn : Fn) (first cap : Array Value) (w : World), (Instr.makeFunc fn first cap).run Try.prog w = .ok (.func fn first cap) w := fun _ _ _ _ => rfl
  have Hb := Lib.hid hb
  clear hb
  obtain ⟨n, hn⟩ : ∃ n : Nat, (n : Int) = a1 % 20 := ⟨(a1 % 20).toNat, Int.toNat_of_nonneg (Int.emod_nonneg _ (by decide))⟩
  have hn2 : n ≤ 1000 := by have := Int.emod_lt_of_pos a1 (b := 20) (by decide); omega
  obtain ⟨d, hd⟩ : ∃ d : Nat, (d : Int) = a2 % 5 := ⟨(a2 % 5).toNat, Int.toNat_of_nonneg (Int.emod_nonneg _ (by decide))⟩
  have hd2 : d ≤ 1000 := by have := Int.emod_lt_of_pos a2 (b := 5) (by decide); omega
  obtain ⟨k, hk⟩ : ∃ k : Int, k = a3 % 3 := ⟨_, rfl⟩
  have hk3 : k = 0 ∨ k = 1 ∨ k = 2 := by have h1 := Int.emod_nonneg a3 (b := 3) (by decide); have h2 := Int.emod_lt_of_pos a3 (b := 3) (by decide); omega
  obtain ⟨q, hq⟩ : ∃ q : Int, q = a4 % 1000 := ⟨_, rfl⟩
  have hq0 : 0 ≤ q := by rw [hq]; exact Int.emod_nonneg _ (by decide)
  have hq2 : q < 1000 := by rw [hq]; exact Int.emod_lt_of_pos _ (by decide)
  have hrd1 := fun w' => round_any a1 20 w' (by decide) (by decide)
  have hrd2 := fun w' => round_any a2 5 w' (by decide) (by decide)
  have hrd3 := fun w' => round_any a3 3 w' (by decide) (by decide)
  have hrd4 := fun w' => round_any a4 1000 w' (by decide) (by decide)
  rw [← hn] at hrd1
  rw [← hd] at hrd2
  rw [← hk] at hrd3
  rw [← hq] at hrd4
  have Hrd1 := Lib.hid hrd1
  have Hrd2 := Lib.hid hrd2
  have Hrd3 := Lib.hid hrd3
  have Hrd4 := Lib.hid hrd4
  clear hrd1 hrd2 hrd3 hrd4 hn hd hk hq
  go_enter Try.func6, Try.ntmps6
  go_wp2_with fail
  obtain ⟨w1, hw1⟩ : ∃ w1, w1 = w.alloc (.cells #[.int .i64 a1] 3) := ⟨_, rfl⟩
  rw [← hw1]
  have hb1 : Below w.heap.size w w1 := by rw [hw1]; exact (Below.refl _ _).alloc (Nat.le_refl _) _
  have hR1 : Blk w1 w.heap.size 3 #[.int .i64 a1] := by rw [hw1]; exact Blk.new _ _ _
  have hr1 : w1.cell? ⟨w.heap.size, 0, none⟩ = some (.int .i64 a1) := hR1.cell 0
  have hrf1 := hR1.frozen 0
  have hrl1 := hR1.lt
  have Hb1 := Lib.hid hb1
  clear hb1 hw1 hR1
  refine (Hrd1.out _).mono ?_
  rintro e w1 ⟨rfl, rfl⟩
  go_wp2_with fail
  obtain ⟨w2, hw2⟩ : ∃ w2, w2 = w1.setCell ⟨w.heap.size, 0, none⟩ (.int .i64 (n : Int)) := ⟨_, rfl⟩
  rw [← hw2]
  have hr2 : w2.cell? ⟨w.heap.size, 0, none⟩ = some (.int .i64 (n : Int)) := by rw [hw2]; exact World.cell?_setCell_same _ _ _ hr1
  have hrl2 : w.heap.size < w2.heap.size := block_lt_of_cell hr2
  have Hb2 : Hid (Below w.heap.size w w2) := Lib.hid (by rw [hw2]; exact Hb1.out.setCell (Nat.le_refl _) _)
  clear hw2 hr1 hrf1 hrl1 Hb1
  refine (Hrd2.out _).mono ?_
  rintro e w2 ⟨rfl, rfl⟩
  go_wp2_with fail
  refine (Hrd3.out _).mono ?_
  rintro e w2 ⟨rfl, rfl⟩
  go_wp2_with fail
  refine (Hrd4.out _).mono ?_
  rintro e w2 ⟨rfl, rfl⟩
  clear Hrd1 Hrd2 Hrd3 Hrd4
  obtain ⟨nn, hnn⟩ : ∃ nn : Int, nn = 1 + q := ⟨_, rfl⟩
  have hn1' : 1 ≤ nn := by omega
  have hn2' : nn ≤ 1000 := by omega
  have hwn : IntKind.i64.wrap nn = nn := IntWalk.i64_in _ (by omega)
  have hrem : nn.tmod 7 = nn % 7 := Int.tmod_eq_emod_of_nonneg (by omega)
  have hsb := Hb.out.below Hb2.out
  have hb5 : ∀ w', Below w2.heap.size w2 w' → Below w.heap.size w w' := fun w' h => Hb2.out.trans (h.mono (by omega))
  have Hb5 := Lib.hid hb5
  clear hb5
  rw [hnn] at hwn
  go_wp2_with fail
  rw [← hnn]
  rw [← hnn] at hwn
  by_cases hF : numsF bs n 0 = 0
  · have hth := through_ok n d k nn hk3 hn1' hn2' hd2 A0 c0 bs w2 hsb hl hF hn2
    obtain ⟨V, hV⟩ : ∃ V, V = wantN k nn := ⟨_, rfl⟩
    have HV := Lib.hid hV
    rw [← hV] at hth
    clear hV hsb
    have Hth := Lib.hid hth
    clear hth hnn
    refine Hth.out.mono ?_
    rintro e w3 ⟨rfl, hb3⟩
    have hr3 : w3.cell? ⟨w.heap.size, 0, none⟩ = some (.int .i64 (n : Int)) := by rw [(bcell hb3).1 _ _ hrl2]; exact hr2
    have hz3 := hb3.size
    have HB3 := Lib.hid (Hb5.out _ hb3)
    have hsb3 := Hb.out.below HB3.out
    have Hsb3 := Lib.hid hsb3
    clear hb3 Hth hsb3
    obtain ⟨w4, hw4⟩ : ∃ w4, w4 = w3.alloc (.cells #[.bool true, .int .i64 V, .int .i64 0, .bool true] 46) := ⟨_, rfl⟩
    have hb4 : Below w3.heap.size w3 w4 := by rw [hw4]; exact (Below.refl _ _).alloc (Nat.le_refl _) _
    have hC4 : Blk w4 w3.heap.size 46 #[.bool true, .int .i64 V, .int .i64 0, .bool true] := by rw [hw4]; exact Blk.new _ _ _
    have hr4 : w4.cell? ⟨w.heap.size, 0, none⟩ = some (.int .i64 (n : Int)) := by rw [(bcell hb4).1 _ _ (by omega)]; exact hr3
    have hz4 := hC4.lt
    have hread := read_any ⟨A0, c0, bs⟩ w4 (Hsb3.out.below hb4) hl 31 #[] #[.pointer (some ⟨w.heap.size, 0, none⟩)] (fun _ => False)
      (fun g' at_ o f' wx => f' = 0 ∧ at_ = bs.length)
      (fun g' wx => by go_simp)
      (fun g' c' A' wx hg' hbx hrdx hAx => by
        refine (mthr_ok g' c' n w.heap.size A' bs wx hrdx hl hF hn2 (by rw [(bcell hbx).1 _ _ (by omega)]; exact hr4) (by omega)).mono ?_
        rintro e wy ⟨rfl, hrdy, hOy⟩
        exact ⟨bs.length, false, 0, hrdy, ⟨rfl, rfl⟩, hOy.mono fun _ _ e => .inl e, .inl rfl⟩)
      (fun b hb => hb.elim)
    dsimp only at hread
    have Hread := Lib.hid hread
    have HC4 := Lib.hid hC4
    have HB4 := Lib.hid (HB3.out.trans (hb4.mono (by omega)))
    have hrest : ∀ w5, Only (fun _ => False) w4 w5 → Blk w5 w3.heap.size 46 #[.bool true, .int .i64 V, .int .i64 0, .bool true] ∧ Below w.heap.size w w5 := fun w5 h => ⟨HC4.out.only h (fun e => e), HB4.out.trans (h.below (by omega) fun p hp e => e)⟩
    have Hrest := Lib.hid hrest
    clear hread hC4 hb4 hr4 hrest
    by_cases hk2 : k = 2
    all_goals
      have hVe := HV.out
      unfold wantN at hVe
      first
        | rw [if_pos hk2] at hVe
        | rw [if_neg hk2] at hVe
      have HVe := Lib.hid hVe
      clear hVe
      go_wp2_with (refine wpList_at 35 rfl ?_; refine wp_stop ?_)
      refine ⟨?_⟩
      rw [← hw4]
      have hz34 : w3.heap.size < w4.heap.size := hz4
      clear hw4 hwn hrem hr3
      go_wp2_with fail
      refine Hread.out.mono ?_
      rintro e w5 ⟨g', at_, o, f', wx, hg', ⟨hfe, hae⟩, rfl, hO5x, hO5⟩
      rw [hfe, hae, show readE 0 bs.length bs.length = 0 from by simp [readE]]
      clear hfe hae
      obtain ⟨hC5, hB5⟩ := Hrest.out _ hO5
      have c0' : w5.cell? ⟨w3.heap.size, 0, none⟩ = _ := hC5.cell 0
      have c1' : w5.cell? ⟨w3.heap.size, 1, none⟩ = _ := hC5.cell 1
      have c2' : w5.cell? ⟨w3.heap.size, 2, none⟩ = _ := hC5.cell 2
      have c3' : w5.cell? ⟨w3.heap.size, 3, none⟩ = _ := hC5.cell 3
      have hl5 := hC5.lt
      have HB5 := Lib.hid hB5
      clear hC5 hB5 hO5x hO5 Hread Hrest HC4
      have hVe := HVe.out
      clear HVe
      go_wp2_with fail
      refine (head_any _).mono ?_
      rintro e w6 ⟨rfl, hb6⟩
      have hz6 := HB5.out.size
      have HB6 := Lib.hid (HB5.out.trans (hb6.mono hz6))
      clear hb6
      go_wp2_with fail
      go_ret
      exact ⟨rfl, HB6.out⟩
  · obtain ⟨F, hFe⟩ : ∃ F, F = numsF bs n 0 := ⟨_, rfl⟩
    have hF0 : F ≠ 0 := by rw [hFe]; exact hF
    have hth := through_fault n d k nn A0 c0 bs w2 hsb hl F hFe hF0 hn2
    obtain ⟨V, hV⟩ : ∃ V, V = wantN k nn := ⟨_, rfl⟩
    have HV := Lib.hid hV
    have HFe := Lib.hid hFe
    have hFb : (F == 0) = false := by rw [beq_eq_false_iff_ne]; exact hF0
    have hE : ∀ q, readE F q bs.length = F := fun q => by unfold readE; rw [if_pos hF0]
    have HE := Lib.hid hE
    clear hV hsb hFe hE
    have Hth := Lib.hid hth
    clear hth hnn
    refine Hth.out.mono ?_
    rintro e w3 ⟨rfl, hb3⟩
    have hr3 : w3.cell? ⟨w.heap.size, 0, none⟩ = some (.int .i64 (n : Int)) := by rw [(bcell hb3).1 _ _ hrl2]; exact hr2
    have hz3 := hb3.size
    have HB3 := Lib.hid (Hb5.out _ hb3)
    have hsb3 := Hb.out.below HB3.out
    have Hsb3 := Lib.hid hsb3
    clear hb3 Hth hsb3
    obtain ⟨w4, hw4⟩ : ∃ w4, w4 = w3.alloc (.cells #[.bool false, .int .i64 0, .int .i64 F, .bool false] 46) := ⟨_, rfl⟩
    have hb4 : Below w3.heap.size w3 w4 := by rw [hw4]; exact (Below.refl _ _).alloc (Nat.le_refl _) _
    have hC4 : Blk w4 w3.heap.size 46 #[.bool false, .int .i64 0, .int .i64 F, .bool false] := by rw [hw4]; exact Blk.new _ _ _
    have hr4 : w4.cell? ⟨w.heap.size, 0, none⟩ = some (.int .i64 (n : Int)) := by rw [(bcell hb4).1 _ _ (by omega)]; exact hr3
    have hz4 := hC4.lt
    have hread := read_any ⟨A0, c0, bs⟩ w4 (Hsb3.out.below hb4) hl 31 #[] #[.pointer (some ⟨w.heap.size, 0, none⟩)] (fun _ => False)
      (fun g' at_ o f' wx => f' = F)
      (fun g' wx => by go_simp)
      (fun g' c' A' wx hg' hbx hrdx hAx => by
        refine (mthr_fault g' c' n w.heap.size A' bs wx hrdx hl hF hn2 (by rw [(bcell hbx).1 _ _ (by omega)]; exact hr4) (by omega)).mono ?_
        rintro e wy ⟨rfl, ⟨at_, hrdy⟩, hOy⟩
        rw [← HFe.out] at hrdy
        exact ⟨at_, true, F, hrdy, rfl, hOy.mono fun _ _ e => .inl e, .inr ⟨rfl, hF0⟩⟩)
      (fun b hb => hb.elim)
    dsimp only at hread
    have Hread := Lib.hid hread
    have HC4 := Lib.hid hC4
    have HB4 := Lib.hid (HB3.out.trans (hb4.mono (by omega)))
    have hrest : ∀ w5, Only (fun _ => False) w4 w5 → Blk w5 w3.heap.size 46 #[.bool false, .int .i64 0, .int .i64 F, .bool false] ∧ Below w.heap.size w w5 := fun w5 h => ⟨HC4.out.only h (fun e => e), HB4.out.trans (h.below (by omega) fun p hp e => e)⟩
    have Hrest := Lib.hid hrest
    clear hread hC4 hb4 hr4 hrest
    by_cases hk2 : k = 2
    all_goals
      have hVe := HV.out
      unfold wantN at hVe
      first
        | rw [if_pos hk2] at hVe
        | rw [if_neg hk2] at hVe
      have HVe := Lib.hid hVe
      clear hVe
      go_wp2_with (refine wpList_at 35 rfl ?_; refine wp_stop ?_)
      refine ⟨?_⟩
      rw [← hw4]
      have hz34 : w3.heap.size < w4.heap.size := hz4
      clear hw4 hwn hrem hr3
      go_wp2_with fail
      refine Hread.out.mono ?_
      rintro e w5 ⟨g', at_, o, f', wx, hg', hfe, rfl, hO5x, hO5⟩
      rw [hfe, HE.out]
      clear hfe
      obtain ⟨hC5, hB5⟩ := Hrest.out _ hO5
      have c0' : w5.cell? ⟨w3.heap.size, 0, none⟩ = _ := hC5.cell 0
      have c1' : w5.cell? ⟨w3.heap.size, 1, none⟩ = _ := hC5.cell 1
      have c2' : w5.cell? ⟨w3.heap.size, 2, none⟩ = _ := hC5.cell 2
      have c3' : w5.cell? ⟨w3.heap.size, 3, none⟩ = _ := hC5.cell 3
      have hl5 := hC5.lt
      have HB5 := Lib.hid hB5
      clear hC5 hB5 hO5x hO5 Hread Hrest HC4
      have hVe := HVe.out
      clear HVe
      go_wp2_with fail
      refine (head_any _).mono ?_
      rintro e w6 ⟨rfl, hb6⟩
      have hz6 := HB5.out.size
      have HB6 := Lib.hid (HB5.out.trans (hb6.mono hz6))
      clear hb6
      go_wp2_with fail
      go_ret
      exact ⟨rfl, HB6.out⟩
end Go.Proofs.Ytefaapcekbgjoaa
