/- The walk of the law MintForms. -/
import Derived.Test.YtefaapcekbgjoaaReadG
import Derived.Test.YtefaapcekbgjoaaLend
import Derived.Test.YtefaapcekbgjoaaInB
import Derived.Test.YtefaapcekbgjoaaBigA
namespace Go.Proofs.Ytefaapcekbgjoaa
open Go.RowKit

set_option maxRecDepth 100000 in
set_option maxHeartbeats 2000000 in
theorem forms_walk (p : Part) (A0 : Option Addr) (c0 : Nat) (its : List Item) (w : World) (hp : Sl w p) (hpl : p.ys.length ≤ 140737488351232) (hI : Items w A0 its) (hl : its.length ≤ 9223372036854775807) :
    Calls Try.prog 10 #[.slice p.A p.ys.length p.c, .slice A0 its.length c0] w fun e w' => e = .returned (.bool true) ∧ Below w.heap.size w w' := by
  have hmf : ∀ (fn : Fn) (first cap : Array Value) (w : World), (Instr.makeFunc fn first cap).run Try.prog w = .ok (.func fn first cap) w := fun _ _ _ _ => rfl
  obtain ⟨pA, pc, bs⟩ := p
  dsimp only at hpl ⊢
  have Hp := Lib.hid hp
  have HI := Lib.hid hI
  clear hp hI
  by_cases hbig : 4194304 < bs.length
  · have g1 : (4194304 : Int) < (bs.length : Int) := by omega
    go_enter Try.func10, Try.ntmps10
    go_wp2_with fail
    refine (head_any _).mono ?_
    rintro e w1 ⟨rfl, hb1⟩
    have Hb1 := Lib.hid hb1
    clear hb1
    go_wp2_with fail
    go_ret
    exact ⟨rfl, Hb1.out⟩
  · have g1 : ¬ (4194304 : Int) < (bs.length : Int) := by omega
    go_enter Try.func10, Try.ntmps10
    go_wp2_with fail
    go_loopw [5, 6] (fun v i wr => ∃ (k : Nat) (l : List Item) (A2 : Option Addr) (c2 : Nat), k ≤ its.length ∧ k ≤ 400 ∧ l.length = k ∧ i = .int .i64 k ∧ v = .slice A2 k c2 ∧ Own wr w.heap.size 30 3 A2 k c2 (l.flatMap itemCells) ∧ (∀ x ∈ l, 1 ≤ x.kind ∧ x.kind ≤ 6 ∧ x.p.ys.length ≤ 140737488355328) ∧ Below w.heap.size w wr) (fun _ i _ => its.length - (intOf i).toNat)
    case atStart => exact ⟨0, [], none, 0, Nat.zero_le _, Nat.zero_le _, rfl, rfl, rfl, Own.nil _ _ _ _, by simp, Below.refl _ _⟩
    case round =>
      obtain ⟨k, l, A2, c2, hk, hk4, hlk, rfl, rfl, hown, hkinds, hB⟩ := hrel
      have hsz := hB.size
      by_cases hlt : k < its.length ∧ k < 400
      · obtain ⟨hlt1, hlt2⟩ := hlt
        have i1 : (k : Int) < (its.length : Int) := by omega
        have i2 : (k : Int) < (400 : Int) := by omega
        obtain ⟨b, off, rfl, hb, q0, q1, q2⟩ := (HI.out.below hB).at_ hlt1
        have Hown := Lib.hid hown
        have Hkinds := Lib.hid hkinds
        have HB := Lib.hid hB
        have Hlk := Lib.hid hlk
        generalize its[k] = x at *
        obtain ⟨kd, hkd⟩ : ∃ kd, kd = x.kind % 6 := ⟨_, rfl⟩
        have hk0 := Int.emod_nonneg x.kind (show (6 : Int) ≠ 0 by omega)
        have hk6 := Int.emod_lt_of_pos x.kind (show (0 : Int) < 6 by omega)
        rw [← hkd] at hk0 hk6
        have Hkd := Lib.hid hkd
        clear hown hkinds hB hlk hkd
        go_wp2_with fail
        refine (round_any x.kind 6 _ (by omega) (by omega)).mono ?_
        rintro e wx ⟨rfl, rfl⟩
        rw [← Hkd.out]
        have hownw := Hown.out
        have hsz2 : wx.heap.size ≤ wx.heap.size + 1 := by omega
        by_cases h6 : kd = 5
        · subst h6
          obtain ⟨m, hm⟩ : ∃ m : Nat, x.n % 9 = (m : Int) := ⟨(x.n % 9).toNat, by have := Int.emod_nonneg x.n (show (9 : Int) ≠ 0 by omega); omega⟩
          have hm9 : m < 9 := by have := Int.emod_lt_of_pos x.n (show (0 : Int) < 9 by omega); omega
          have Hm := Lib.hid hm
          clear hm hownw
          go_wp2_with fail
          refine (round_any x.n 9 _ (by omega) (by omega)).mono ?_
          rintro e wy ⟨rfl, rfl⟩
          rw [Hm.out]
          go_wp2_with (refine wpList_at 43 rfl ?_; refine wp_stop ?_)
          refine ⟨?_⟩
          refine wpList_make1 rfl (.tmp 42) (.tmp 42) rfl Try.underlying22 byte_info rfl .i64 .i64 _ m rfl rfl (by simp) (by omega) (by unfold maxLen; omega) ?_
          intro w1 hblk hb1 hz1
          rw [World.size_alloc] at hblk hb1 hz1 ⊢
          have hBx : Blk w1 wx.heap.size 30 #[.int .i64 6, .int .i64 0, .slice none 0 0] := (Blk.new wx _ _).below hb1 (by omega)
          have y0 : w1.cell? ⟨wx.heap.size, 0, none⟩ = some (.int .i64 6) := hBx.cell 0
          have y1 : w1.cell? ⟨wx.heap.size, 1, none⟩ = some (.int .i64 0) := hBx.cell 1
          have y2 : w1.cell? ⟨wx.heap.size, 2, none⟩ = some (.slice none 0 0) := hBx.cell 2
          have yf := hBx.frozen 2
          have hz1' : wx.heap.size + 2 ≤ w1.heap.size := by omega
          have hgx1 : wx.heap.size < w1.heap.size := by omega
          have hown1 : Own w1 w.heap.size 30 3 A2 k c2 (l.flatMap itemCells) := Own.below (Hown.out.alloc _) hb1 (by simp)
          have hB1 : Below w.heap.size w w1 := (HB.out.alloc hsz _).trans (hb1.mono (by omega))
          have hO2 : Only (fun q => q = wx.heap.size) w1 (w1.setCell ⟨wx.heap.size, 2, none⟩ (.slice (some ⟨wx.heap.size + 1, 0, none⟩) m m)) := (Only.refl (fun q => q = wx.heap.size) w1).setCell (p := ⟨wx.heap.size, 2, none⟩) (.inl rfl) _
          have hown2 := hown1.only hO2 fun q o e h => by have := (Own.row Hown.out q (by rw [e]; rfl)).2; omega
          have hB2 := hB1.trans (hO2.below (B := w.heap.size) (by omega) fun q hq e => by omega)
          have HO2 := Lib.hid hown2
          have HB2 := Lib.hid hB2
          have hRow : RV ((w1.setCell ⟨wx.heap.size, 2, none⟩ (.slice (some ⟨wx.heap.size + 1, 0, none⟩) m m)).alloc (.cells #[.int .i64 6, .int .i64 0, .slice (some ⟨wx.heap.size + 1, 0, none⟩) m m] 30)) (some ⟨w1.heap.size, 0, none⟩) (itemCells ⟨6, 0, ⟨some ⟨wx.heap.size + 1, 0, none⟩, m, List.replicate m 0⟩⟩) := by
            have h := RV.of_blk (Blk.new (w1.setCell ⟨wx.heap.size, 2, none⟩ (.slice (some ⟨wx.heap.size + 1, 0, none⟩) m m)) 30 #[.int .i64 6, .int .i64 0, .slice (some ⟨wx.heap.size + 1, 0, none⟩) m m])
            rw [World.size_setCell] at h
            unfold itemCells
            rw [List.length_replicate]
            exact h
          have HRow := Lib.hid hRow
          clear hblk hb1 hz1 hBx hown1 hB1 hO2 hown2 hB2 hRow
          go_wp2_with (at_builtin; refine wpList_app rfl (.tmp 45) (.tmp 47) eItem rfl (base := w.heap.size) (n := k) (c := c2) (A := A2) (vs := l.flatMap itemCells) rfl (HO2.out.alloc _) (A' := some ⟨w1.heap.size, 0, none⟩) (m := 1) (c' := 1) (us := itemCells ⟨6, 0, ⟨some ⟨wx.heap.size + 1, 0, none⟩, m, List.replicate m 0⟩⟩) rfl HRow.out rfl (items_one [⟨6, 0, ⟨some ⟨wx.heap.size + 1, 0, none⟩, m, List.replicate m 0⟩⟩]) (by unfold maxLen; omega) (by omega) (by simp; omega) (by simp) ?_; intro A3 c3 w3 hown3 hg3 hat3)
          have hB3 : Below w.heap.size w w3 := (HB2.out.alloc (by simp; omega) _).grown hg3 (by simp; omega) fun q hq => (Own.row Hown.out q hq).1
          refine ⟨⟨k + 1, l ++ [⟨6, 0, ⟨some ⟨wx.heap.size + 1, 0, none⟩, m, List.replicate m 0⟩⟩], A3, c3, by omega, by omega, by rw [List.length_append, Hlk.out]; rfl, by go_num, rfl, ?_, ?_, hB3⟩, by simp [intOf]; omega⟩
          · rw [List.flatMap_append]
            simpa using hown3
          · intro z hz
            rcases List.mem_append.1 hz with h | h
            · exact Hkinds.out z h
            · rcases List.mem_singleton.1 h with rfl
              exact ⟨by show (1 : Int) ≤ 6; omega, by show (6 : Int) ≤ 6; omega, by show (List.replicate m (0 : UInt8)).length ≤ _; rw [List.length_replicate]; omega⟩
        · have g2 : ((1 + kd : Int) == 6) = false := by rw [beq_eq_false_iff_ne]; omega
          have g3 : ¬ (1 + kd : Int) = 6 := by omega
          have hRow : RV ((wx.alloc (.cells #[.int .i64 (1 + kd), .int .i64 0, .slice none 0 0] 30)).alloc (.cells #[.int .i64 (1 + kd), .int .i64 0, .slice none 0 0] 30)) (some ⟨wx.heap.size + 1, 0, none⟩) (itemCells ⟨1 + kd, 0, ⟨none, 0, []⟩⟩) := by
            have h := RV.of_blk (Blk.new (wx.alloc (.cells #[.int .i64 (1 + kd), .int .i64 0, .slice none 0 0] 30)) 30 #[.int .i64 (1 + kd), .int .i64 0, .slice none 0 0])
            rw [World.size_alloc] at h
            exact h
          have HRow := Lib.hid hRow
          clear hownw hRow
          go_wp2_with (at_builtin; refine wpList_app rfl (.tmp 45) (.tmp 47) eItem rfl (base := w.heap.size) (n := k) (c := c2) (A := A2) (vs := l.flatMap itemCells) rfl ((Hown.out.alloc _).alloc _) (A' := some ⟨wx.heap.size + 1, 0, none⟩) (m := 1) (c' := 1) (us := itemCells ⟨1 + kd, 0, ⟨none, 0, []⟩⟩) rfl HRow.out rfl (items_one [⟨1 + kd, 0, ⟨none, 0, []⟩⟩]) (by unfold maxLen; omega) (by omega) (by simp; omega) (by simp) ?_; intro A3 c3 w3 hown3 hg3 hat3)
          have hB3 : Below w.heap.size w w3 := ((HB.out.alloc hsz _).alloc (by simp; omega) _).grown hg3 (by simp; omega) fun q hq => (Own.row Hown.out q hq).1
          refine ⟨⟨k + 1, l ++ [⟨1 + kd, 0, ⟨none, 0, []⟩⟩], A3, c3, by omega, by omega, by rw [List.length_append, Hlk.out]; rfl, by go_num, rfl, ?_, ?_, hB3⟩, by simp [intOf]; omega⟩
          · rw [List.flatMap_append]
            simpa using hown3
          · intro z hz
            rcases List.mem_append.1 hz with h | h
            · exact Hkinds.out z h
            · rcases List.mem_singleton.1 h with rfl
              exact ⟨by show 1 ≤ 1 + kd; omega, by show 1 + kd ≤ 6; omega, by show 0 ≤ _; omega⟩
      · subst hlk
        have hend : ¬ (l.length : Int) < (its.length : Int) ∨ ((l.length : Int) < (its.length : Int) ∧ ¬ (l.length : Int) < (400 : Int)) := by omega
        have hslr := Hp.out.below hB
        obtain ⟨w3, hw3⟩ : ∃ w3, w3 = wr.alloc (.cells #[.slice A2 l.length c2, .slice none 0 0, .slice none 0 0, .pointer none] 83) := ⟨_, rfl⟩
        have hb3 : Below wr.heap.size wr w3 := by rw [hw3]; exact (Below.refl _ _).alloc (Nat.le_refl _) _
        have hz3 : w3.heap.size = wr.heap.size + 1 := by rw [hw3]; simp
        have hB3 : Blk w3 wr.heap.size 83 #[.slice A2 l.length c2, .slice none 0 0, .slice none 0 0, .pointer none] := by rw [hw3]; exact Blk.new _ _ _
        have Hlend := Lib.hid (lend_any ⟨pA, pc, bs⟩ w3 (hslr.below hb3) (by dsimp only; omega))
        have hAW : ∀ b o, A2 = some ⟨b, o, none⟩ → b < wr.heap.size := fun b o e => (Own.row hown b (by rw [e]; rfl)).2
        have HAW := Lib.hid hAW
        have Hown := Lib.hid hown
        have Hkinds := Lib.hid hkinds
        have HB := Lib.hid hB
        have Hw3 := Lib.hid hw3
        have Hb3 := Lib.hid hb3
        have HB3 := Lib.hid hB3
        have Hslr := Lib.hid hslr
        clear hown hkinds hB hlt hw3 hb3 hB3 hAW hslr
        rcases hend with i1 | ⟨i0, i1⟩
        all_goals
          go_wp2_with fail
          rw [← Hw3.out]
          refine Hlend.out.mono ?_
          rintro e w4 ⟨g4, rfl, hblk4, hg4, hb4⟩
          dsimp only at hblk4 hb4 ⊢
          have hz4 := hb4.size
          have hgl4 := hblk4.lt
          have hmine : Sl w4 ⟨some ⟨g4, 0, none⟩, bs.length + 5, bs⟩ := by
            refine ⟨?_, fun h => by cases h⟩
            have h1 : RV w4 (some ⟨g4, 0, none⟩) (lentL bs 5 5) := by simpa using RV.of_blk hblk4
            have h2 := h1.cut 0 bs.length
            simpa [lentL] using h2
          have hbr4 : Below wr.heap.size wr w4 := Hb3.out.trans (hb4.mono (by omega))
          have hread := read_gen wr.heap.size (bs.length + 5) c2 (some ⟨g4, 0, none⟩) A2 bs l w4 hmine (HB3.out.below hb4 (by omega)) ((RV.of_own Hown.out).below hbr4) (fun b o e => by have := HAW.out b o e; omega) Hkinds.out (by omega) (by omega)
          have Hread := Lib.hid hread
          have Hbr4 := Lib.hid hbr4
          clear hread hmine hbr4 hblk4 hb4
          go_wp2_with fail
          refine Hread.out.mono ?_
          rintro e w5 ⟨hO5, r, rfl, hok⟩
          have hbr5 : Below wr.heap.size wr w5 := Hbr4.out.trans (hO5.below (by omega) fun q hq e => by omega)
          have hb05 : Below w.heap.size w w5 := HB.out.trans (hbr5.mono HB.out.size)
          have hz5 := hO5.size
          have Hbr5 := Lib.hid hbr5
          have Hb05 := Lib.hid hb05
          clear hO5 hbr5 hb05 Hread Hlend
          by_cases hr : r = 0
          · obtain ⟨g, base, ats, AT, cT, AL, cL, told, hbase, hats, hS⟩ := hok hr
            subst hr
            have hform := told_form (told := told) (all := l) (by omega) hS.zero hS.len hS.step l.length (Nat.le_refl _)
            rw [hats, List.take_length, ← hS.len, List.take_length] at hform
            have hokt := told_okay (told := told) (all := l) (by omega) hS.len hS.step
            have hwrt := written_any AT cT told w5 (RV.of_own hS.rowT) (fun y hy => ⟨(hS.own y hy).held.rv, (hS.own y hy).held.nil⟩) hokt (by rw [hform]; omega) (by rw [hS.len]; omega)
            rw [hform, hS.len] at hwrt
            have s1 : w5.cell? ⟨wr.heap.size, 1, none⟩ = some (.slice AT l.length cT) := hS.blk.cell 1
            have hgs5 := hS.blk.lt
            have Hwrt := Lib.hid hwrt
            clear hok hS hform hokt hwrt hats
            go_wp2_with fail
            refine Hwrt.out.mono ?_
            rintro e w6 ⟨A6, c6, rfl, hown6, hb6⟩
            have hz6 := hb6.size
            have hsame := same_any ⟨A6, c6, bs⟩ ⟨pA, pc, bs⟩ w6 (Sl.of_own hown6) ((Hslr.out.below Hbr5.out).below hb6) (by dsimp only; omega) (by dsimp only; omega)
            dsimp only at hsame
            rw [show (bs == bs) = true from by simp] at hsame
            have Hsame := Lib.hid hsame
            have Hb06 := Lib.hid (Hb05.out.trans (hb6.mono Hb05.out.size))
            clear hown6 hb6 hsame Hwrt s1
            go_wp2_with fail
            refine Hsame.out.mono ?_
            rintro e w7 ⟨rfl, m, rfl⟩
            go_wp2_with fail
            refine (head_any _).mono ?_
            rintro e w8 ⟨rfl, hb8⟩
            have Hb08 := Lib.hid ((below_drewN Hb06.out m).trans (hb8.mono (below_drewN Hb06.out m).size))
            clear hb8
            go_wp2_with fail
            go_ret
            exact ⟨rfl, Hb08.out⟩
          · have g5 : (r == 0) = false := by rw [beq_eq_false_iff_ne]; exact hr
            clear hok
            go_wp2_with fail
            refine (head_any _).mono ?_
            rintro e w6 ⟨rfl, hb6⟩
            have Hb06 := Lib.hid (Hb05.out.trans (hb6.mono Hb05.out.size))
            clear hb6
            go_wp2_with fail
            go_ret
            exact ⟨rfl, Hb06.out⟩
end Go.Proofs.Ytefaapcekbgjoaa
