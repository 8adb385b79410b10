/- The walk of the law MintBack. -/
import Derived.Test.YtefaapcekbgjoaaBackL
import Derived.Test.YtefaapcekbgjoaaLend
import Derived.Test.YtefaapcekbgjoaaQMid
namespace Go.Proofs.Ytefaapcekbgjoaa
open Go.RowKit

set_option maxRecDepth 100000 in
set_option maxHeartbeats 2000000 in
theorem back_walk (A0 : Option Addr) (c0 : Nat) (its : List Item) (w : World) (hI : Items w A0 its) (hl : its.length ≤ 9223372036854775807) :
    Calls Try.prog 9 #[.slice A0 its.length c0] w fun e w' => e = .returned (.bool true) ∧ Below w.heap.size w w' := by
  have hmf : ∀ (fn : Fn) (first cap : Array Value) (w : World), (Instr.makeFunc fn first cap).run Try.prog w = .ok (.func fn first cap) w := fun _ _ _ _ => rfl
  have hrg := rights_any A0 c0 its 400 8192 w hI hl (by omega) (by omega)
  rw [show ((400 : Nat) : Int) = 400 from rfl, show ((8192 : Nat) : Int) = 8192 from rfl] at hrg
  have hok : ∀ x ∈ rightsL its 400 8192, Okay x := fun x hx => by
    obtain ⟨y, hy, rfl, _⟩ := rights_mem hx
    exact right_okay y (hI.ok y hy)
  have hsl : ∀ x ∈ rightsL its 400 8192, Sl w x.p := fun x hx => by
    obtain ⟨y, hy, rfl, _⟩ := rights_mem hx
    exact right_sl y (hI.sl y hy)
  have hq : ∀ x ∈ rightsL its 400 8192, x.p.ys.length ≤ 8192 := fun x hx => by
    obtain ⟨y, hy, rfl, h⟩ := rights_mem hx
    exact h
  have hn := rightsL_len its 400 8192
  have htot := forms_le (rightsL its 400 8192) 8192 hq
  generalize rightsL its 400 8192 = all at *
  have htot2 : (formsL all).length ≤ 4194304 := by
    have : all.length * (9 + 8192) ≤ 400 * (9 + 8192) := Nat.mul_le_mul_right _ hn
    omega
  have Hok := Lib.hid hok
  have Hsl := Lib.hid hsl
  have Hq := Lib.hid hq
  have Hrg := Lib.hid hrg
  clear hok hsl hq hrg htot hI
  go_enter Try.func9, Try.ntmps9
  go_wp2_with fail
  refine Hrg.out.mono ?_
  rintro e w1 ⟨AW, cW, rfl, hown1, hb1⟩
  have hz1 := hb1.size
  have hwr := written_any AW cW all w1 (RV.of_own hown1) (fun x hx => (Hsl.out x hx).below hb1) Hok.out htot2 hn
  have Hown1 := Lib.hid hown1
  have Hb1 := Lib.hid hb1
  have Hwr := Lib.hid hwr
  clear hown1 hb1 hwr Hrg
  go_wp2_with fail
  refine Hwr.out.mono ?_
  rintro e w2 ⟨A2, c2, rfl, hown2, hb2⟩
  have hz2 := hb2.size
  have Hown2 := Lib.hid hown2
  have Hb2 := Lib.hid hb2
  clear hown2 hb2 Hwr
  obtain ⟨bs, hbs⟩ : ∃ bs, bs = formsL all := ⟨_, rfl⟩
  rw [← hbs] at htot2 Hown2 ⊢
  have Hbs := Lib.hid hbs
  clear hbs
  go_wp2_with fail
  obtain ⟨w3, hw3⟩ : ∃ w3, w3 = w2.alloc (.cells #[.slice AW all.length cW, .slice none 0 0, .slice none 0 0, .pointer none] 83) := ⟨_, rfl⟩
  rw [← hw3]
  have hb3 : Below w2.heap.size w2 w3 := by rw [hw3]; exact (Below.refl _ _).alloc (Nat.le_refl _) _
  have hz3 : w3.heap.size = w2.heap.size + 1 := by rw [hw3]; simp
  have hB3 : Blk w3 w2.heap.size 83 #[.slice AW all.length cW, .slice none 0 0, .slice none 0 0, .pointer none] := by rw [hw3]; exact Blk.new _ _ _
  have hlend := lend_any ⟨A2, c2, bs⟩ w3 ((Sl.of_own Hown2.out).below hb3) (by dsimp only; omega)
  dsimp only at hlend
  have Hlend := Lib.hid hlend
  have Hb3 := Lib.hid hb3
  have HB3 := Lib.hid hB3
  clear hw3 hb3 hB3 hlend
  refine Hlend.out.mono ?_
  rintro e w4 ⟨g4, rfl, hblk4, hg4, hb4⟩
  have hz4 := hb4.size
  have hgl4 := hblk4.lt
  have hmine : Sl w4 ⟨some ⟨g4, 0, none⟩, bs.length + 5, bs⟩ := by
    refine ⟨?_, fun h => by cases h⟩
    have h1 : RV w4 (some ⟨g4, 0, none⟩) (lentL bs 5 5) := by simpa using RV.of_blk hblk4
    have h2 := h1.cut 0 bs.length
    simpa [lentL] using h2
  have hB4 := HB3.out.below hb4 (by omega)
  have hb24 : Below w2.heap.size w2 w4 := Hb3.out.trans (hb4.mono (by omega))
  have hb14 : Below w1.heap.size w1 w4 := Hb2.out.trans (hb24.mono (by omega))
  have hRW4 := (RV.of_own Hown1.out).below hb14
  have hAW : ∀ b o, AW = some ⟨b, o, none⟩ → b < w1.heap.size := fun b o e => (Own.row Hown1.out b (by rw [e]; rfl)).2
  have hread := read_any ⟨some ⟨g4, 0, none⟩, bs.length + 5, bs⟩ w4 hmine (by dsimp only; omega) 50 #[.pointer (some ⟨w2.heap.size, 0, none⟩)] #[] (fun b => b = w2.heap.size)
    (fun g at_ o f wx => at_ = bs.length ∧ f = 0 ∧ ∃ base AT cT AL cL told, w4.heap.size < base ∧ g < base ∧ Sheet wx w2.heap.size g base AW cW all all.length AT cT AL cL told)
    (fun g wx => by go_simp)
    (fun g c A wx hg hbx hrd hA => by
      have hzx := hbx.size
      have hglx := hrd.blk.lt
      refine (run_any w2.heap.size g c cW A AW bs all wx (hB4.below hbx (by omega)) (hRW4.below hbx) (fun b o e => by have := hAW b o e; omega) (by omega) Hbs.out (fun b o e => by have := hA b o e; omega) Hok.out hrd (by omega) hn).mono ?_
      rintro e wy ⟨rfl, hrd2, hO, AT, cT, AL, cL, told, hS⟩
      exact ⟨bs.length, false, 0, hrd2, ⟨rfl, rfl, wx.heap.size, AT, cT, AL, cL, told, by omega, hglx, hS⟩, hO, .inl rfl⟩)
    (fun b hb => by omega)
  dsimp only at hread
  have Hread := Lib.hid hread
  have Hblk4 := Lib.hid hblk4
  have Hb24 := Lib.hid hb24
  have Hb14 := Lib.hid hb14
  clear hread hblk4 hb24 hb14 hRW4 hmine hB4 hb4 Hlend
  go_wp2_with fail
  refine Hread.out.mono ?_
  rintro e w5 ⟨g, at_, o, f, wy, hgg, ⟨hat, rfl, base, AT, cT, AL, cL, told, hbase1, hbase2, hS⟩, rfl, hO1, hO2⟩
  subst hat
  rw [show readE 0 bs.length bs.length = 0 from by simp [readE]]
  have hS5 := hS.only hO1 (by rintro b (h | h) <;> omega) (by rintro (h | h) <;> omega)
  have hb25 : Below w2.heap.size w2 w5 := Hb24.out.trans (hO2.below (by omega) fun q hq e => by omega)
  have hb15 : Below w1.heap.size w1 w5 := Hb2.out.trans (hb25.mono (by omega))
  have hblk5 : Blk w5 g4 5 (lentL bs 5 5).toArray := Hblk4.out.only hO2 (by omega)
  have hsl5 : Sl w5 ⟨A2, c2, bs⟩ := (Sl.of_own Hown2.out).below hb25
  have hz5 := hO2.size
  have HS5 := Lib.hid hS5
  have Hb25 := Lib.hid hb25
  have Hb15 := Lib.hid hb15
  have Hblk5 := Lib.hid hblk5
  have Hsl5 := Lib.hid hsl5
  clear hS hO1 hO2 hS5 hb25 hb15 hblk5 hsl5 Hread Hblk4
  go_wp2_with fail
  refine (back_any ⟨A2, c2, bs⟩ g4 w5 Hsl5.out (by dsimp only; omega) Hblk5.out).mono ?_
  rintro e w6 ⟨rfl, hO6⟩
  have hS6 := HS5.out.only hO6 (fun b h => by omega) (by omega)
  have hb26 : Below w2.heap.size w2 w6 := Hb25.out.trans (hO6.below (by omega) fun q hq e => by omega)
  have hb16 : Below w1.heap.size w1 w6 := Hb2.out.trans (hb26.mono (by omega))
  have hb06 : Below w.heap.size w w6 := Hb1.out.trans (hb16.mono (by omega))
  have hsame := sameI_any AT AW cT cW told all w6 (RV.of_own hS6.rowT) ((RV.of_own Hown1.out).below hb16) hS6.len hS6.mat (fun y hy => ⟨(hS6.own y hy).rv, (hS6.own y hy).nil⟩) (fun x hx => (Hsl.out x hx).below hb06) (fun x hx => by have := Hq.out x hx; omega) (by omega)
  have c1 : w6.cell? ⟨w2.heap.size, 1, none⟩ = some (.slice AT all.length cT) := hS6.blk.cell 1
  have c2' : w6.cell? ⟨w2.heap.size, 2, none⟩ = some (.slice AL all.length cL) := hS6.blk.cell 2
  have hgs6 := hS6.blk.lt
  have hleft := RV.of_own hS6.left
  have Hsame := Lib.hid hsame
  have Hb06 := Lib.hid hb06
  have Hleft := Lib.hid hleft
  clear hS6 hO6 hb26 hb16 hb06 hsame hleft HS5 Hb25 Hb15 Hblk5 Hsl5
  go_wp2_with fail
  refine Hsame.out.mono ?_
  rintro e w7 ⟨rfl, m, rfl⟩
  have hb7 : Below w.heap.size w (w6.drewN m) := below_drewN Hb06.out m
  have Hb7 := Lib.hid hb7
  clear hb7
  by_cases hne : all.length = 0
  · have g1 : (all.length : Int) = 0 := by omega
    have g2 : all = [] := List.eq_nil_of_length_eq_zero hne
    go_wp2_with fail
    go_ret
    exact ⟨rfl, Hb7.out⟩
  · have g2 : (all = []) = False := by rw [eq_iff_iff, iff_false]; exact fun h => hne (by rw [h]; rfl)
    obtain ⟨n', hn'⟩ : ∃ n', n' + 1 = all.length := ⟨all.length - 1, by omega⟩
    obtain ⟨b, off, rfl, hb, hc⟩ := Hleft.out.at_ (by simp only [leftV, List.length_map, List.length_range]; omega)
    have h0 : w6.cell? ⟨b, off + n', none⟩ = some (.int .i64 0) := hc _ _ (left_last all n' hn')
    have hfc : (w6.drewN m).cell? ⟨b, off + n', none⟩ = some (.int .i64 0) := h0
    have c2'' : (w6.drewN m).cell? ⟨w2.heap.size, 2, none⟩ = some (.slice (some ⟨b, off, none⟩) (n' + 1) cL) := by rw [hn']; exact c2'
    have g1 : ((all.length : Int) = 0) = False := by rw [eq_iff_iff, iff_false]; omega
    have g3 : (all.length : Int) - 1 = (n' : Int) := by omega
    rw [← hn'] at c2'
    have Hn' := Lib.hid hn'
    have g4 : n' < all.length := by omega
    clear hc c1 hn'
    go_wp2_with fail
    go_ret
    exact ⟨rfl, Hb7.out⟩
end Go.Proofs.Ytefaapcekbgjoaa
