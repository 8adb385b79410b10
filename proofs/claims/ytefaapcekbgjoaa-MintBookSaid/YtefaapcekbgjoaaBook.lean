/- The walk of the law MintBook. -/
import Derived.Test.YtefaapcekbgjoaaBookL
import Derived.Test.YtefaapcekbgjoaaMoved
import Derived.Test.YtefaapcekbgjoaaBackL
import Derived.Test.YtefaapcekbgjoaaBigA
import Derived.Test.YtefaapcekbgjoaaSameI
namespace Go.Proofs.Ytefaapcekbgjoaa
open Go.RowKit

set_option maxRecDepth 100000 in
set_option maxHeartbeats 8000000 in
theorem book_walk (A0 : Option Addr) (c0 : Nat) (its : List Item) (w : World) (hI : Items w A0 its) (hl : its.length ≤ 9223372036854775807) :
    Calls Try.prog 12 #[.slice A0 its.length c0] w fun e w' => e = .returned (.bool true) ∧ Below w.heap.size w w' := by
  have hmf : ∀ (fn : Fn) (first cap : Array Value) (w : World), (Instr.makeFunc fn first cap).run Try.prog w = .ok (.func fn first cap) w := fun _ _ _ _ => rfl
  have hrg := rights_any A0 c0 its 60 2000 w hI hl (by omega) (by omega)
  rw [show ((60 : Nat) : Int) = 60 from rfl, show ((2000 : Nat) : Int) = 2000 from rfl] at hrg
  have hok : ∀ x ∈ rightsL its 60 2000, Okay x := fun x hx => by
    obtain ⟨y, hy, rfl, _⟩ := rights_mem hx
    exact right_okay y (hI.ok y hy)
  have hsl : ∀ x ∈ rightsL its 60 2000, Sl w x.p := fun x hx => by
    obtain ⟨y, hy, rfl, _⟩ := rights_mem hx
    exact right_sl y (hI.sl y hy)
  have hq : ∀ x ∈ rightsL its 60 2000, x.p.ys.length ≤ 2000 := fun x hx => by
    obtain ⟨y, hy, rfl, h⟩ := rights_mem hx
    exact h
  have hn := rightsL_len its 60 2000
  have htot := forms_le (rightsL its 60 2000) 2000 hq
  generalize rightsL its 60 2000 = all at *
  have htot2 : (formsL all).length ≤ 4194304 := by
    have : all.length * (9 + 2000) ≤ 60 * (9 + 2000) := Nat.mul_le_mul_right _ hn
    omega
  have Hok := Lib.hid hok
  have Hsl := Lib.hid hsl
  have Hq := Lib.hid hq
  have Hrg := Lib.hid hrg
  clear hok hsl hq hrg htot hI
  go_enter Try.func12, Try.ntmps12
  go_wp2_with fail
  refine Hrg.out.mono ?_
  rintro e w1 ⟨AW, cW, rfl, hown1, hb1⟩
  have hz1 := hb1.size
  have Hown1 := Lib.hid hown1
  have Hb1 := Lib.hid hb1
  clear hown1 hb1 Hrg
  go_wp2_with fail
  refine (new_any _).mono ?_
  rintro e w2 ⟨rfl, rfl⟩
  go_wp2_with fail
  go_loopw [5] (fun i wr => ∃ (k : Nat) (A : Option Addr) (c : Nat), k ≤ all.length ∧ i = .int .i64 k ∧ Wr wr w1.heap.size w1.heap.size A c (formsL (all.take k)) 0 ∧ Below w1.heap.size w1 wr) (fun i _ => all.length - (intOf i).toNat)
  case atStart => exact ⟨0, none, 0, Nat.zero_le _, rfl, new_wr w1, (Below.refl _ _).alloc (Nat.le_refl _) _⟩
  case round =>
    obtain ⟨k, A, c, hk, rfl, hW, hB⟩ := hrel
    have hsz := hB.size
    by_cases hlt : k < all.length
    · have g1 : (k : Int) < (all.length : Int) := by omega
      have hmem := List.getElem_mem hlt
      have hRr := (RV.of_own Hown1.out).below hB
      have hcells := fun j (hj : j < 3) => flatMap_get itemCells 3 (fun _ => rfl) all k j all[k] (List.getElem?_eq_getElem hlt) hj
      have hll : (all.flatMap itemCells).length = all.length * 3 := length_flatMap_const _ 3 (fun _ => rfl) _
      obtain ⟨b, off, rfl, hb, hc⟩ := hRr.at_ (by rw [hll]; omega)
      have q0 : wr.cell? ⟨b, off + k * 3, none⟩ = some (.int .i64 all[k].kind) := hc _ _ (hcells 0 (by omega))
      have q1 : wr.cell? ⟨b, off + k * 3 + 1, none⟩ = some (.int .i64 all[k].n) := by have := hc _ _ (hcells 1 (by omega)); rwa [← Nat.add_assoc] at this
      have q2 : wr.cell? ⟨b, off + k * 3 + 2, none⟩ = some (.slice all[k].p.A all[k].p.ys.length all[k].p.c) := by have := hc _ _ (hcells 2 (by omega)); rwa [← Nat.add_assoc] at this
      have hle : (formsL (all.take k)).length + (itemL all[k]).length ≤ (formsL all).length := by rw [forms_split all k hlt, List.length_append, List.length_append]; omega
      have hroom := putItem_room (formsL (all.take k)) all[k] (Hok.out _ hmem) (by have := htot2; omega)
      have hput := put_any w1.heap.size w1.heap.size A c (formsL (all.take k)) 0 all[k] wr hW (by have := htot2; omega) hsz ((Hsl.out _ hmem).below (Hb1.out.trans (hB.mono hz1))) (Hok.out _ hmem).toOk
        (((Hsl.out _ hmem).below Hb1.out).sep hW (Nat.le_refl _) (Nat.le_refl _))
      rw [hroom] at hput
      have hnx : formsL (all.take (k + 1)) = formsL (all.take k) ++ itemL all[k] := by
        unfold formsL
        rw [List.take_succ_eq_append_getElem hlt, List.flatMap_append]
        simp
      dsimp only at hput
      rw [← hnx] at hput
      have Hput := Lib.hid hput
      have HW := Lib.hid hW
      have HB := Lib.hid hB
      have hgl := hW.blk.lt
      generalize all[k] = x at *
      clear hput hW hB hRr hcells hc hroom hnx hle
      go_wp2_with fail
      refine Hput.out.mono ?_
      rintro e w3 ⟨rfl, A3, c3, hW3, hA3, hO3⟩
      have hB3 : Below w1.heap.size w1 w3 := HB.out.trans (hO3.below hsz fun q hq e => by
        rcases e with e | e
        · omega
        · have := (HW.out.lenA q e).1; omega)
      have HW3 := Lib.hid hW3
      have HB3 := Lib.hid hB3
      clear hW3 hA3 hO3 hB3
      go_wp2_with fail
      exact ⟨⟨k + 1, A3, c3, by omega, by go_num, HW3.out, HB3.out⟩, by simp [intOf]; omega⟩
    · obtain rfl : k = all.length := by omega
      rw [List.take_length] at hW
      rename World => w3
      have hI3 : Items w3 AW all := ⟨(RV.of_own Hown1.out).below hB, fun x hx => (Hsl.out x hx).below (Hb1.out.trans (hB.mono hz1)), fun x hx => (Hok.out x hx).toOk⟩
      have hrd := refDone_any AW cW all w3 hI3 (by omega) (fun x hx => by have := Hq.out x hx; omega)
      rw [refFrom_forms all [] Hok.out (by rw [List.length_nil]; omega), List.nil_append] at hrd
      obtain ⟨bs, hbs⟩ : ∃ bs, bs = formsL all := ⟨_, rfl⟩
      rw [← hbs] at hrd hW htot2
      have Hrd := Lib.hid hrd
      have HW := Lib.hid hW
      have HB := Lib.hid hB
      have Hbs := Lib.hid hbs
      have hgl := hW.blk.lt
      clear hW hB hI3 hrd hbs
      go_wp2_with fail
      refine Hrd.out.mono ?_
      rintro e w4 ⟨Aw, cw, rfl, hownw, hb4⟩
      dsimp only at hownw ⊢
      have hz4 := hb4.size
      have Hwant := Lib.hid hownw
      have HW4 := Lib.hid (HW.out.below hb4)
      have HB4 := Lib.hid (HB.out.trans (hb4.mono hsz))
      clear hownw hb4 HW HB Hrd
      go_wp2_with fail
      go_loopw [8, 9] (fun v i wr => ∃ (t : Nat) (ps : List Part) (AL : Option Addr) (cL : Nat), t ≤ 3 ∧ i = .int .i64 t ∧ v = .slice AL ps.length cL ∧ Lists w4 wr w4.heap.size ps AL cL ∧ ps.length ≤ t * 61) (fun _ i _ => 3 - (intOf i).toNat)
      case atStart => exact ⟨0, [], none, 0, by omega, rfl, rfl, ⟨Own.nil _ _ _ _, fun p hp => absurd hp (by simp), fun _ _ _ _ _ h => absurd h (by simp), Below.refl _ _, fun p hp => absurd hp (by simp)⟩, by simp⟩
      case round =>
        rename World => w5
        obtain ⟨t, ps, AL, cL, ht, rfl, rfl, hL, hps⟩ := hrel
        have hz5 := hL.below.size
        have hd := done_any w1.heap.size w1.heap.size A c bs 0 w5 (HW4.out.below hL.below) htot2
        have hgl4 := HW4.out.blk.lt
        have Hd := Lib.hid hd
        have HL := Lib.hid hL
        have Hlt5 := Lib.hid (show ∀ p ∈ ps, ∀ b, p.A.map (·.block) = some b → b < w5.heap.size from fun p hp b hb => (hL.lt p hp b hb).2)
        clear hd hL
        by_cases hlt : t < 3
        · have g1 : (t : Int) < 3 := by omega
          go_wp2_with fail
          refine Hd.out.mono ?_
          rintro e w6 ⟨A6, c6, rfl, hown6, hb6⟩
          have e0 : doneL bs 0 = bs := by unfold doneL; rw [if_pos rfl]
          rw [e0] at hown6 ⊢
          have hz6 := hb6.size
          have hL6 := HL.out.on hb6 hz5
          have hwant6 := Own.below Hwant.out hL6.below (Nat.le_refl _)
          have hsm := same_any ⟨A6, c6, bs⟩ ⟨Aw, cw, bs⟩ w6 (Sl.of_own hown6) (Sl.of_own hwant6) (by dsimp only; omega) (by dsimp only; omega)
          dsimp only at hsm
          rw [show (bs == bs) = true from by simp] at hsm
          have Hsm := Lib.hid hsm
          have Hown6 := Lib.hid hown6
          have HL6 := Lib.hid hL6
          clear hsm hown6 hL6 hwant6 hb6 e0 HL Hd
          go_wp2_with fail
          refine Hsm.out.mono ?_
          rintro e w7 ⟨rfl, m, hw7⟩
          have hb67 : Below w6.heap.size w6 w7 := by rw [hw7]; exact below_drewN (Below.refl _ _) m
          have hz7 := hb67.size
          have hL7 := HL6.out.on hb67 (by omega)
          have hown7 := Own.below Hown6.out hb67 (Nat.le_refl _)
          have hRow : RV (w7.alloc (.cells #[.slice A6 bs.length c6] 22)) (some ⟨w7.heap.size, 0, none⟩) [.slice A6 bs.length c6] := RV.of_blk (Blk.new w7 _ #[_])
          have HL7 := Lib.hid hL7
          have Hown7 := Lib.hid hown7
          have HRow := Lib.hid hRow
          clear hL7 hown7 hRow hb67 hw7 HL6 Hown6 Hsm
          go_wp2_with (refine wpList_at 67 rfl ?_; refine wp_stop ?_)
          refine ⟨?_⟩
          refine wpList_app rfl (.tmp 64) (.tmp 66) eRow rfl (base := w4.heap.size) (n := ps.length) (c := cL) (A := AL) (vs := ps.map pv) rfl (HL7.out.row.alloc _) (A' := some ⟨w7.heap.size, 0, none⟩) (m := 1) (c' := 1) (us := [.slice A6 bs.length c6]) rfl HRow.out rfl (by intro u hu; rw [List.mem_singleton.1 hu]; rfl) (by unfold maxLen; omega) (by omega) (by simp; omega) (by simp) ?_
          intro A8 c8 w8 hown8 hg8 hat8
          have hL8 := HL7.out.step (p := ⟨A6, c6, bs⟩) (Hown7.out.mono (base' := w4.heap.size) hz5) htot2 (fun q hq b e e2 => by
            have h1 := Hlt5.out q hq b e
            have h2 := (Own.row Hown7.out b e2).1
            omega) (by omega) ((Below.refl _ _).alloc (Nat.le_refl _) _) hg8 hown8
          obtain ⟨ps1, hps1⟩ : ∃ ps1, ps1 = ps ++ [⟨A6, c6, bs⟩] := ⟨_, rfl⟩
          have hpl1 : ps1.length = ps.length + 1 := by rw [hps1, List.length_append]; rfl
          rw [← hps1] at hL8
          have hz8 := hL8.below.size
          have HL8 := Lib.hid hL8
          clear hown8 hg8 hat8 hL8 hps1 HL7 Hown7 HRow Hlt5
          rw [← hpl1]
          go_wp2_with fail
          obtain ⟨w9, hw9⟩ : ∃ w9, w9 = w8.alloc (.cells #[.slice AW all.length cW, .slice none 0 0, .slice none 0 0, .pointer none] 83) := ⟨_, rfl⟩
          rw [← hw9]
          have hb9 : Below w8.heap.size w8 w9 := by rw [hw9]; exact (Below.refl _ _).alloc (Nat.le_refl _) _
          have hz9 : w9.heap.size = w8.heap.size + 1 := by rw [hw9]; simp
          have hB9 : Blk w9 w8.heap.size 83 #[.slice AW all.length cW, .slice none 0 0, .slice none 0 0, .pointer none] := by rw [hw9]; exact Blk.new _ _ _
          have hb49 := HL8.out.below.trans (hb9.mono hz8)
          have hb19 : Below w1.heap.size w1 w9 := HB4.out.trans (hb49.mono (by omega))
          have hb09 : Below w.heap.size w w9 := Hb1.out.trans (hb19.mono hz1)
          have hread := read_own w8.heap.size cw cW Aw AW all w9 (by rw [← Hbs.out]; exact Sl.of_own (Own.below Hwant.out hb49 (Nat.le_refl _))) hB9 ((RV.of_own Hown1.out).below hb19) (fun b o e => by
            have := (Own.row Hown1.out b (by rw [e]; rfl)).2
            omega) Hok.out (by rw [← Hbs.out]; omega) (by omega)
          rw [← Hbs.out] at hread
          have Hread := Lib.hid hread
          have Hb9 := Lib.hid hb9
          have Hb19 := Lib.hid hb19
          have Hb09 := Lib.hid hb09
          have hz49 := hb49.size
          have hz19 := hb19.size
          have hz09 := hb09.size
          clear hread hb49 hb19 hb09 hB9 hb9 hw9
          refine Hread.out.mono ?_
          rintro e w10 ⟨rfl, hO10, g, base, ats, AT, cT, AQ, cQ, told, hbase, hS, hAs⟩
          have hz10 := hO10.size
          have hb810 : Below w8.heap.size w8 w10 := Hb9.out.trans (hO10.below (by omega) fun q hq e => by omega)
          have hb910 : Below w1.heap.size w1 w10 := Hb19.out.trans (hO10.below (by omega) fun q hq e => by omega)
          have hb010 : Below w.heap.size w w10 := Hb09.out.trans (hO10.below (by omega) fun q hq e => by omega)
          have hL10 := HL8.out.on hb810 hz8
          have hlt10 : ∀ p ∈ ps1, ∀ b, p.A.map (·.block) = some b → b < base := fun p hp b hb => by
            have := (HL8.out.lt p hp b hb).2
            omega
          have hbse : ∀ p ∈ ps1, True := fun _ _ => trivial
          have hsame := sameI_any AT AW cT cW told all w10 (RV.of_own hS.rowT) ((RV.of_own Hown1.out).below hb910) hS.len (fun j _ h2 => hAs j h2) (fun y hy => ⟨(hS.own y hy).held.rv, (hS.own y hy).held.nil⟩) (fun x hx => (Hsl.out x hx).below hb010) (fun x hx => by have := Hq.out x hx; omega) (by omega)
          have s1 : w10.cell? ⟨w8.heap.size, 1, none⟩ = some (.slice AT all.length cT) := hS.blk.cell 1
          have hgs10 := hS.blk.lt
          have Hsame := Lib.hid hsame
          have HS := Lib.hid hS
          have HAs := Lib.hid hAs
          have HL10 := Lib.hid hL10
          have Hlt10 := Lib.hid hlt10
          have hlen := hS.len
          clear hsame hS hAs hL10 hlt10 hb810 hb910 hb010 hO10 Hread HL8 hbse Hb9 Hb19 Hb09
          go_wp2_with fail
          refine Hsame.out.mono ?_
          rintro e w11 ⟨rfl, m2, hw11⟩
          have hb11 : Below w10.heap.size w10 w11 := by rw [hw11]; exact below_drewN (Below.refl _ _) m2
          have hz11 := hb11.size
          have hS11 := HS.out.below hb11
          have hL11 := HL10.out.on hb11 (by omega)
          have s1' : w11.cell? ⟨w8.heap.size, 1, none⟩ = some (.slice AT all.length cT) := hS11.blk.cell 1
          have hgs11 := hS11.blk.lt
          have HS11 := Lib.hid hS11
          have HL11 := Lib.hid hL11
          clear hS11 hL11 hb11 hw11 HS HL10 Hsame s1
          go_wp2_with fail
          go_loopw [8, 14] (fun v i wr => ∃ (k : Nat) (AM : Option Addr) (cM : Nat), k ≤ all.length ∧ i = .int .i64 k ∧ v = .slice AM (ps1 ++ toldL told k).length cM ∧ Lists w4 wr w4.heap.size (ps1 ++ toldL told k) AM cM ∧ SheetG wr (formsL all) w8.heap.size g base AW cW all all.length ats AT cT AQ cQ told) (fun _ i _ => all.length - (intOf i).toNat)
          case atStart => exact ⟨0, A8, c8, Nat.zero_le _, rfl, by simp [toldL, hpl1], by simpa [toldL] using HL11.out, HS11.out⟩
          case round =>
            rename World => w12
            obtain ⟨k, AM, cM, hk, rfl, rfl, hL, hS⟩ := hrel
            by_cases hltk : k < all.length
            · have g2 : (k : Int) < (all.length : Int) := by omega
              obtain ⟨y, hy⟩ : ∃ y, told[k]? = some y := ⟨_, List.getElem?_eq_getElem (by omega)⟩
              have hyt := List.mem_of_getElem? hy
              have hyl : k < told.length := by omega
              have hyk : told[k] = y := by rw [List.getElem?_eq_getElem hyl] at hy; injection hy
              have hRt := RV.of_own hS.rowT
              have hcells := fun j (hj : j < 3) => flatMap_get itemCells 3 (fun _ => rfl) told k j y hy hj
              have hll : (told.flatMap itemCells).length = told.length * 3 := length_flatMap_const _ 3 (fun _ => rfl) _
              obtain ⟨b, off, rfl, hb, hc⟩ := hRt.at_ (by rw [hll]; omega)
              have t0 : w12.cell? ⟨b, off + k * 3, none⟩ = some (.int .i64 y.kind) := hc _ _ (hcells 0 (by omega))
              have t2 : w12.cell? ⟨b, off + k * 3 + 2, none⟩ = some (.slice y.p.A y.p.ys.length y.p.c) := by have := hc _ _ (hcells 2 (by omega)); rwa [← Nat.add_assoc] at this
              have s2 : w12.cell? ⟨w8.heap.size, 1, none⟩ = some (.slice (some ⟨b, off, none⟩) all.length cT) := hS.blk.cell 1
              have hgs12 := hS.blk.lt
              have hmine := hS.own y hyt
              have hsz12 := hL.below.size
              have hkk : (ps1 ++ toldL told k).length ≤ 183 + 1 + 60 := by
                have := toldL_len told k
                rw [List.length_append]
                omega
              have hnx := toldL_next hy
              obtain ⟨As1, As2, As3, As4⟩ : As y all[k] := by
                obtain ⟨z, hz, hA⟩ := HAs.out k hltk
                rw [hy] at hz
                injection hz with hz
                rw [hz]
                exact hA
              have hyl2 : y.p.ys.length ≤ 4194304 := by
                by_cases h3 : y.kind ≤ 3
                · rw [As4 h3]; simp
                · rw [As3 (by omega)]
                  have := Hq.out _ (List.getElem_mem hltk)
                  omega
              have hfr : ∀ q ∈ ps1 ++ toldL told k, ∀ b, q.A.map (·.block) = some b → y.kind ≠ 5 → y.p.A.map (·.block) ≠ some b := fun q hq b e hk5 e2 => by
                have h2 := own_blk (hmine.own hk5) b e2
                rcases List.mem_append.1 hq with hq1 | hq1
                · have h1 := Hlt10.out q hq1 b e
                  omega
                · obtain ⟨j, z, hj, hz, rfl⟩ := toldL_mem hq1
                  have h3 := own_blk (hL.own _ hq) b e
                  exact hS.sole j k z y hj hz hy b 0 0 h3.1 h2.1
              by_cases hk5 : y.kind = 5
              · rw [if_pos hk5] at hnx
                rw [hk5] at t0
                have HL := Lib.hid hL
                have HS12 := Lib.hid hS
                clear hL hS hRt hcells hc hmine hfr As1 As2 As3 As4 hy hyk hyt
                go_wp2_with fail
                exact ⟨⟨k + 1, AM, cM, by omega, by go_num, by rw [hnx], by rw [hnx]; exact HL.out, HS12.out⟩, by simp [intOf]; omega⟩
              · rw [if_neg hk5] at hnx
                have hnx : ps1 ++ toldL told (k + 1) = (ps1 ++ toldL told k) ++ [y.p] := by rw [hnx, List.append_assoc]
                have hown : OwnB w12 base y.p.A y.p.ys.length y.p.c y.p.ys := hmine.own hk5
                have hown' : OwnB w12 w4.heap.size y.p.A y.p.ys.length y.p.c y.p.ys := hown.mono (by omega)
                have hRow : RV (w12.alloc (.cells #[.slice y.p.A y.p.ys.length y.p.c] 22)) (some ⟨w12.heap.size, 0, none⟩) [.slice y.p.A y.p.ys.length y.p.c] := RV.of_blk (Blk.new w12 _ #[_])
                have HL := Lib.hid hL
                have HS12 := Lib.hid hS
                have Hown := Lib.hid hown'
                have HRow := Lib.hid hRow
                have Hfr := Lib.hid hfr
                have g3 : (y.kind = 5) = False := by rw [eq_iff_iff, iff_false]; exact hk5
                obtain ⟨qs, hqs⟩ : ∃ qs, qs = ps1 ++ toldL told k := ⟨_, rfl⟩
                rw [← hqs] at hkk HL Hfr hnx
                rw [← hqs]
                have Hnx := Lib.hid hnx
                have Hqs := Lib.hid hqs
                clear hL hS hRt hcells hc hmine hfr As1 As2 As3 As4 hy hyk hyt hown hown' hRow hnx hqs
                go_wp2_with (refine wpList_at 114 rfl ?_; refine wp_stop ?_)
                refine ⟨?_⟩
                refine wpList_app rfl (.tmp 104) (.tmp 113) eRow rfl (base := w4.heap.size) (n := qs.length) (c := cM) (A := AM) (vs := qs.map pv) rfl (HL.out.row.alloc _) (A' := some ⟨w12.heap.size, 0, none⟩) (m := 1) (c' := 1) (us := [.slice y.p.A y.p.ys.length y.p.c]) rfl HRow.out rfl (by intro u hu; rw [List.mem_singleton.1 hu]; rfl) (by unfold maxLen; omega) (by omega) (by simp; omega) (by simp) ?_
                intro A13 c13 w13 hown13 hg13 hat13
                have hL13 := HL.out.step (p := y.p) Hown.out hyl2 (fun q hq b e => Hfr.out q hq b e hk5) hsz12 ((Below.refl _ _).alloc (Nat.le_refl _) _) hg13 hown13
                have hS13 := HS12.out.grown HL.out.row ((Below.refl _ _).alloc (Nat.le_refl _) _) hg13
                have HL13 := Lib.hid hL13
                have HS13 := Lib.hid hS13
                clear hL13 hS13 hown13 hg13 hat13 HL HS12
                go_wp2_with fail
                refine ⟨⟨k + 1, A13, c13, by omega, by go_num, ?_, ?_, HS13.out⟩, by simp [intOf]; omega⟩
                · rw [Hnx.out, List.length_append]; rfl
                · rw [Hnx.out]; exact HL13.out
            · obtain rfl : k = all.length := by omega
              have HL := Lib.hid hL
              have s2 : w12.cell? ⟨w8.heap.size, 1, none⟩ = some (.slice AT all.length cT) := hS.blk.cell 1
              have hgs12 := hS.blk.lt
              have hlen2 : (ps1 ++ toldL told all.length).length ≤ (t + 1) * 61 := by
                have := toldL_len told all.length
                rw [List.length_append]
                omega
              clear hL hS
              go_wp2_with fail
              exact ⟨⟨t + 1, ps1 ++ toldL told all.length, AM, cM, by omega, by go_num, rfl, HL.out, hlen2⟩, by simp [intOf]; omega⟩
        · obtain rfl : t = 3 := by omega
          go_wp2_with fail
          refine Hd.out.mono ?_
          rintro e w6 ⟨A6, c6, rfl, hown6, hb6⟩
          have e0 : doneL bs 0 = bs := by unfold doneL; rw [if_pos rfl]
          rw [e0] at hown6 ⊢
          have hL6 := HL.out.on hb6 hz5
          have hz6 := hb6.size
          have hgr := grown_any AL cL w4.heap.size ps w6 (RV.of_own hL6.row) hL6.own hL6.sole (fun b o e ⟨p, hp, e2⟩ => hL6.row.ne_map2 (hL6.own p hp) (by decide) b 0 (own_blk (hL6.own p hp) b e2).1 (by rw [e]; rfl)) hL6.len (by omega) (by omega)
          have Hgr := Lib.hid hgr
          have Hown6 := Lib.hid hown6
          have HL6 := Lib.hid hL6
          clear hgr hown6 hL6 hb6 e0 HL Hd
          go_wp2_with fail
          refine Hgr.out.mono ?_
          rintro e w7 ⟨rfl, hO7⟩
          have hz7 := hO7.size
          have hb47 : Below w4.heap.size w4 w7 := HL6.out.below.trans (hO7.below (by omega) fun q hq ⟨p, hp, e⟩ => by
            have := HL6.out.lt p hp q e
            omega)
          have hown7 := Own.only Hown6.out hO7 fun b o e ⟨p, hp, e2⟩ => by
            have h1 := Hlt5.out p hp b e2
            have h2 := (Own.row Hown6.out b (by rw [e]; rfl)).1
            omega
          have hwant7 := Own.below Hwant.out hb47 (Nat.le_refl _)
          have hsm := same_any ⟨A6, c6, bs⟩ ⟨Aw, cw, bs⟩ w7 (Sl.of_own hown7) (Sl.of_own hwant7) (by dsimp only; omega) (by dsimp only; omega)
          dsimp only at hsm
          rw [show (bs == bs) = true from by simp] at hsm
          have Hsm := Lib.hid hsm
          have Hb47 := Lib.hid hb47
          clear hsm hb47 hown7 hwant7 hO7 Hgr Hown6 HL6 Hlt5
          go_wp2_with fail
          refine Hsm.out.mono ?_
          rintro e w8 ⟨rfl, m, hw8⟩
          have hb48 : Below w4.heap.size w4 w8 := by rw [hw8]; exact below_drewN Hb47.out m
          have hz8 := hb48.size
          have hb08 : Below w.heap.size w w8 := (Hb1.out.trans (HB4.out.mono hz1)).trans (hb48.mono (by omega))
          have hI8 : Items w8 AW all := ⟨(RV.of_own Hown1.out).below (HB4.out.trans (hb48.mono (by omega))), fun x hx => (Hsl.out x hx).below hb08, fun x hx => (Hok.out x hx).toOk⟩
          have hrd := refDone_any AW cW all w8 hI8 (by omega) (fun x hx => by have := Hq.out x hx; omega)
          rw [refFrom_forms all [] Hok.out (by rw [List.length_nil, ← Hbs.out]; omega), List.nil_append, ← Hbs.out] at hrd
          have Hrd := Lib.hid hrd
          have Hb48 := Lib.hid hb48
          clear hrd hb48 hb08 hI8 hw8 Hb47 Hsm
          go_wp2_with fail
          refine Hrd.out.mono ?_
          rintro e w9 ⟨Ag, cg, rfl, howng, hb9⟩
          dsimp only at howng ⊢
          have hz9 := hb9.size
          have hb49 := Hb48.out.trans (hb9.mono hz8)
          have hd := done_any w1.heap.size w1.heap.size A c bs 0 w9 (HW4.out.below hb49) htot2
          have Hd := Lib.hid hd
          have Hb49 := Lib.hid hb49
          have Howng := Lib.hid howng
          clear hd hb49 howng hb9 Hrd Hb48
          go_wp2_with fail
          refine Hd.out.mono ?_
          rintro e w10 ⟨A10, c10, rfl, hown10, hb10⟩
          have e0 : doneL bs 0 = bs := by unfold doneL; rw [if_pos rfl]
          rw [e0] at hown10 ⊢
          have hz10 := hb10.size
          have hb410 := Hb49.out.trans (hb10.mono (by omega))
          have howng10 := Own.below Howng.out hb10 (Nat.le_refl _)
          have hsm := same_any ⟨A10, c10, bs⟩ ⟨Ag, cg, bs⟩ w10 (Sl.of_own hown10) (Sl.of_own howng10) (by dsimp only; omega) (by dsimp only; omega)
          dsimp only at hsm
          rw [show (bs == bs) = true from by simp] at hsm
          have Hsm := Lib.hid hsm
          have Hb410 := Lib.hid hb410
          have Howng10 := Lib.hid howng10
          clear hsm hb410 howng10 hb10 hown10 e0 Hd Hb49 Howng
          go_wp2_with fail
          refine Hsm.out.mono ?_
          rintro e w11 ⟨rfl, m2, hw11⟩
          have hb411 : Below w4.heap.size w4 w11 := by rw [hw11]; exact below_drewN Hb410.out m2
          have howng11 : OwnB w11 w8.heap.size Ag bs.length cg bs := by rw [hw11]; exact Own.below Howng10.out (below_drewN (Below.refl _ _) m2) (Nat.le_refl _)
          have hz11 := hb411.size
          have hwant11 := Own.below Hwant.out hb411 (Nat.le_refl _)
          have hsm := same_any ⟨Aw, cw, bs⟩ ⟨Ag, cg, bs⟩ w11 (Sl.of_own hwant11) (Sl.of_own howng11) (by dsimp only; omega) (by dsimp only; omega)
          dsimp only at hsm
          rw [show (bs == bs) = true from by simp] at hsm
          have Hsm2 := Lib.hid hsm
          have Hb411 := Lib.hid hb411
          clear hsm hb411 howng11 hwant11 hw11 Hsm Hb410 Howng10
          go_wp2_with fail
          refine Hsm2.out.mono ?_
          rintro e w12 ⟨rfl, m3, hw12⟩
          have hb412 : Below w4.heap.size w4 w12 := by rw [hw12]; exact below_drewN Hb411.out m3
          have hz12 := hb412.size
          have hb112 : Below w1.heap.size w1 w12 := HB4.out.trans (hb412.mono (by omega))
          have hmv := moved_any Aw AW cw cW bs all w12 (Sl.of_own (Own.below Hwant.out hb412 (Nat.le_refl _))) Hbs.out ((RV.of_own Hown1.out).below hb112) (fun b o e => by
            have := (Own.row Hown1.out b (by rw [e]; rfl)).2
            omega) Hok.out (by omega) (by omega)
          have Hmv := Lib.hid hmv
          have Hb012 := Lib.hid (Hb1.out.trans (hb112.mono hz1))
          clear hmv hb412 hb112 hw12 Hsm2 Hb411
          go_wp2_with fail
          refine Hmv.out.mono ?_
          rintro e w13 ⟨rfl, hb13⟩
          have hz012 := Hb012.out.size
          have Hb013 := Lib.hid (Hb012.out.trans (hb13.mono hz012))
          clear hb13 Hmv
          go_wp2_with fail
          refine (head_any _).mono ?_
          rintro e w14 ⟨rfl, hb14⟩
          have hz013 := Hb013.out.size
          have Hb014 := Lib.hid (Hb013.out.trans (hb14.mono hz013))
          clear hb14
          go_wp2_with fail
          go_ret
          exact ⟨rfl, Hb014.out⟩
end Go.Proofs.Ytefaapcekbgjoaa
