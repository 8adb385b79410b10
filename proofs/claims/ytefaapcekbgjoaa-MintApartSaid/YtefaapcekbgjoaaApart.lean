/- The walk of the law MintApart. -/
import Derived.Test.YtefaapcekbgjoaaApartL
import Derived.Test.YtefaapcekbgjoaaInB
import Derived.Deep.CutRange
namespace Go.Proofs.Ytefaapcekbgjoaa
open Go.RowKit

set_option maxRecDepth 100000 in
set_option maxHeartbeats 2000000 in
theorem apart_walk (A0 A1 AT : Option Addr) (c0 c1 cT : Nat) (its1 its2 : List Item) (ts : List Int) (w : World) (hI1 : Items w A0 its1) (hl1 : its1.length ≤ 9223372036854775807) (hI2 : Items w A1 its2) (hl2 : its2.length ≤ 9223372036854775807) (hT : RV w AT (ts.map (.int .i64))) (htl : ts.length ≤ 9223372036854775807) :
    Calls Try.prog 11 #[.slice A0 its1.length c0, .slice A1 its2.length c1, .slice AT ts.length cT] w fun e w' => e = .returned (.bool true) ∧ Below w.heap.size w w' := by
  have hmf : ∀ (fn : Fn) (first cap : Array Value) (w : World), (Instr.makeFunc fn first cap).run Try.prog w = .ok (.func fn first cap) w := fun _ _ _ _ => rfl
  obtain ⟨tl, htl2⟩ : ∃ tl, ts.length = tl := ⟨_, rfl⟩
  rw [htl2] at htl ⊢
  have Htl := Lib.hid htl2
  clear htl2
  have hrg1 := rights_any A0 c0 its1 100 2000 w hI1 hl1 (by omega) (by omega)
  have hrg2 := fun w1 (hb : Below w.heap.size w w1) => rights_any A1 c1 its2 100 2000 w1 (hI2.below hb) hl2 (by omega) (by omega)
  rw [show ((100 : Nat) : Int) = 100 from rfl, show ((2000 : Nat) : Int) = 2000 from rfl] at hrg1
  have hok1 : ∀ x ∈ rightsL its1 100 2000, Okay x ∧ Sl w x.p ∧ x.p.ys.length ≤ 2000 := fun x hx => by
    obtain ⟨y, hy, rfl, h⟩ := rights_mem hx
    exact ⟨right_okay y (hI1.ok y hy), right_sl y (hI1.sl y hy), h⟩
  have hok2 : ∀ x ∈ rightsL its2 100 2000, Okay x ∧ Sl w x.p ∧ x.p.ys.length ≤ 2000 := fun x hx => by
    obtain ⟨y, hy, rfl, h⟩ := rights_mem hx
    exact ⟨right_okay y (hI2.ok y hy), right_sl y (hI2.sl y hy), h⟩
  have hn1 := rightsL_len its1 100 2000
  have hn2 := rightsL_len its2 100 2000
  obtain ⟨l, hl⟩ : ∃ l : Nat → List Item, l = fun k => if k = 0 then rightsL its1 100 2000 else rightsL its2 100 2000 := ⟨_, rfl⟩
  have e0 : rightsL its1 100 2000 = l 0 := by rw [hl]; rfl
  have e1 : rightsL its2 100 2000 = l 1 := by rw [hl]; rfl
  rw [e0] at hok1 hn1 hrg1
  rw [e1] at hok2 hn2 hrg2
  have hok : ∀ k, k < 2 → ∀ x ∈ l k, Okay x ∧ Sl w x.p ∧ x.p.ys.length ≤ 2000 := fun k hk => by
    rcases (show k = 0 ∨ k = 1 by omega) with rfl | rfl
    · exact hok1
    · exact hok2
  have hn : ∀ k, k < 2 → (l k).length ≤ 100 := fun k hk => by
    rcases (show k = 0 ∨ k = 1 by omega) with rfl | rfl
    · exact hn1
    · exact hn2
  have Hok := Lib.hid hok
  have Hn := Lib.hid hn
  have Hrg1 := Lib.hid hrg1
  have Hrg2 := Lib.hid hrg2
  have HT := Lib.hid hT
  clear hok hn hrg1 hrg2 hT hok1 hok2 e0 e1 hl hI1 hI2
  go_enter Try.func11, Try.ntmps11
  go_wp2_with fail
  refine Hrg1.out.mono ?_
  rintro e w1 ⟨AW0, cW0, rfl, hown1, hb1⟩
  have hz1 := hb1.size
  have hrg := Hrg2.out w1 hb1
  rw [show ((100 : Nat) : Int) = 100 from rfl, show ((2000 : Nat) : Int) = 2000 from rfl] at hrg
  have Hown1 := Lib.hid hown1
  have Hb1 := Lib.hid hb1
  have Hrg := Lib.hid hrg
  clear hown1 hb1 hrg Hrg1 Hrg2
  go_wp2_with fail
  refine Hrg.out.mono ?_
  rintro e w2 ⟨AW1, cW1, rfl, hown2, hb2⟩
  have hz2 := hb2.size
  have Hown2 := Lib.hid hown2
  have Hb2 := Lib.hid hb2
  clear hown2 hb2 Hrg
  go_wp2_with fail
  refine (new_any _).mono ?_
  rintro e w3 ⟨rfl, rfl⟩
  go_wp2_with fail
  refine (new_any _).mono ?_
  rintro e w3 ⟨rfl, rfl⟩
  go_wp2_with fail
  obtain ⟨w5, hw5⟩ : ∃ w5, w5 = (((w2.alloc (.cells #[.slice AW0 (l 0).length cW0, .slice AW1 (l 1).length cW1] 86)).alloc (.cells #[.slice none 0 0, .int .i64 0] 94)).alloc (.cells #[.slice none 0 0, .int .i64 0] 94)).alloc (.cells #[.int .i64 0, .int .i64 0] 87) := ⟨_, rfl⟩
  rw [← hw5]
  have hb5 : Below w2.heap.size w2 w5 := by rw [hw5]; exact ((((Below.refl _ _).alloc (Nat.le_refl _) _).alloc (by simp) _).alloc (by simp; omega) _).alloc (by simp; omega) _
  have hz5 : w5.heap.size = w2.heap.size + 4 := by rw [hw5]; simp
  have k0 : Blk w5 w2.heap.size 86 #[.slice AW0 (l 0).length cW0, .slice AW1 (l 1).length cW1] := by rw [hw5]; exact (((Blk.new w2 _ _).alloc _).alloc _).alloc _
  have k1 : Blk w5 (w2.heap.size + 1) 94 #[.slice none 0 0, .int .i64 0] := by
    have h := ((Blk.new (w2.alloc (.cells #[.slice AW0 (l 0).length cW0, .slice AW1 (l 1).length cW1] 86)) 94 #[.slice none 0 0, .int .i64 0]).alloc (.cells #[.slice none 0 0, .int .i64 0] 94)).alloc (.cells #[.int .i64 0, .int .i64 0] 87)
    rw [World.size_alloc, ← hw5] at h
    exact h
  have k2 : Blk w5 (w2.heap.size + 1 + 1) 94 #[.slice none 0 0, .int .i64 0] := by
    have h := (Blk.new ((w2.alloc (.cells #[.slice AW0 (l 0).length cW0, .slice AW1 (l 1).length cW1] 86)).alloc (.cells #[.slice none 0 0, .int .i64 0] 94)) 94 #[.slice none 0 0, .int .i64 0]).alloc (.cells #[.int .i64 0, .int .i64 0] 87)
    rw [World.size_alloc, World.size_alloc, ← hw5] at h
    exact h
  have k3 : Blk w5 (w2.heap.size + 1 + 1 + 1) 87 #[.int .i64 0, .int .i64 0] := by
    have h := Blk.new (((w2.alloc (.cells #[.slice AW0 (l 0).length cW0, .slice AW1 (l 1).length cW1] 86)).alloc (.cells #[.slice none 0 0, .int .i64 0] 94)).alloc (.cells #[.slice none 0 0, .int .i64 0] 94)) 87 #[.int .i64 0, .int .i64 0]
    rw [World.size_alloc, World.size_alloc, World.size_alloc, ← hw5] at h
    exact h
  clear hw5
  obtain ⟨gT, hgT⟩ : ∃ gT, w2.heap.size + 1 + 1 + 1 = gT := ⟨_, rfl⟩
  obtain ⟨gw, hg0, hg1⟩ : ∃ gw : Nat → Nat, w2.heap.size + 1 = gw 0 ∧ w2.heap.size + 1 + 1 = gw 1 := ⟨fun k => w2.heap.size + 1 + k, rfl, rfl⟩
  obtain ⟨gL, hgL⟩ : ∃ gL, w2.heap.size = gL := ⟨_, rfl⟩
  obtain ⟨AW, hA0, hA1⟩ : ∃ AW : Nat → Option Addr, AW0 = AW 0 ∧ AW1 = AW 1 := ⟨fun k => if k = 0 then AW0 else AW1, rfl, rfl⟩
  obtain ⟨cW, hC0, hC1⟩ : ∃ cW : Nat → Nat, cW0 = cW 0 ∧ cW1 = cW 1 := ⟨fun k => if k = 0 then cW0 else cW1, rfl, rfl⟩
  subst hA0 hA1 hC0 hC1
  rw [hgT] at k3 ⊢
  rw [hg1] at k2 ⊢
  rw [hg0] at k1 ⊢
  rw [hgL] at k0 ⊢
  have hd1 : gL < gw 0 := by omega
  have hd2 : gw 0 < gw 1 := by omega
  have hd3 : gw 1 < gT := by omega
  have hd4 : gT < w5.heap.size := by omega
  have hgL2 : w2.heap.size = gL := hgL
  have hT0 : Two w5 w5 gL gT gw l AW cW (fun _ => 0) (fun _ => none) (fun _ => 0) :=
    ⟨k0, k3, fun k hk => by
      rcases (show k = 0 ∨ k = 1 by omega) with rfl | rfl
      · exact ⟨k1, Own.nil _ _ _ _⟩
      · exact ⟨k2, Own.nil _ _ _ _⟩, fun b h => (by cases h), Only.refl _ _⟩
  have HT0 := Lib.hid hT0
  have Hb5 := Lib.hid hb5
  have HgL := Lib.hid hgL2
  have hbT : Below w.heap.size w w5 := (Hb1.out.trans (Hb2.out.mono (by omega))).trans (hb5.mono (by omega))
  have HbT := Lib.hid hbT
  have hz52 : w.heap.size ≤ w5.heap.size := hbT.size
  have hz51 : w1.heap.size ≤ gL := by omega
  have hz50 : w2.heap.size ≤ gL := by omega
  clear k0 k1 k2 k3 hT0 hb5 hgT hg0 hg1 hgL hgL2 hz5 hbT
  go_loopw [11] (fun n wr => ∃ (i : Nat → Nat) (A : Nat → Option Addr) (c : Nat → Nat), (∀ k, k < 2 → i k ≤ (l k).length) ∧ n = .int .i64 ((i 0 + i 1 : Nat) : Int) ∧ Two w5 wr gL gT gw l AW cW i A c) (fun n _ => (l 0).length + (l 1).length - (intOf n).toNat)
  case atStart => exact ⟨fun _ => 0, fun _ => none, fun _ => 0, fun _ _ => Nat.zero_le _, rfl, HT0.out⟩
  case round =>
    obtain ⟨i, A, c, hi, rfl, hTw⟩ := hrel
    have hT0 := (hTw.cellT 0 (by omega)).1
    have hT1 := (hTw.cellT 1 (by omega)).1
    have hL0 := hTw.cellL 0 (by omega)
    have hL1 := hTw.cellL 1 (by omega)
    have hgTr := hTw.at_.lt
    have hgLr := hTw.lists.lt
    have hi0 := hi 0 (by omega)
    have hi1 := hi 1 (by omega)
    have hn0 := Hn.out 0 (by omega)
    have hn1 := Hn.out 1 (by omega)
    have HTwo := Lib.hid hTw
    have hbR : Below w.heap.size w wr := HbT.out.trans (hTw.only.below hz52 fun q hq e => by rcases e with e | e | e <;> omega)
    have HbR := Lib.hid hbR
    clear hbR
    obtain ⟨n, hn⟩ : ∃ n, i 0 + i 1 = n := ⟨_, rfl⟩
    rw [hn]
    have hn2 : n ≤ 200 := by omega
    have Hnn := Lib.hid hn
    clear hn
    have Hi := Lib.hid hi
    clear hTw hi
    by_cases hcont : i 0 < (l 0).length ∨ i 1 < (l 1).length
    · have hcase : (i 0 : Int) < ((l 0).length : Int) ∨ (¬ (i 0 : Int) < ((l 0).length : Int) ∧ (i 1 : Int) < ((l 1).length : Int)) := by omega
      rcases hcase with g0 | ⟨g0, g1⟩
      all_goals
        go_upto_if 56 with (fail)
        go_cut [12] from 38 to 102 (fun s wx => ∃ k : Nat, k < 2 ∧ s = .int .i64 (k : Int) ∧ ∃ m, wx = wr.drewN m)
        case first =>
          by_cases htn : 0 < tl
          · have hml : n % tl < tl := Nat.mod_lt _ htn
            have hml2 : n % tl < ts.length := by rw [Htl.out]; exact hml
            have hRT := HT.out.below HbR.out
            obtain ⟨tb, toff, rfl, htb, hc⟩ := hRT.at_ (by rw [List.length_map, Htl.out]; exact htn)
            have hct : wr.cell? ⟨tb, toff + n % tl, none⟩ = some (.int .i64 (ts[n % tl]'hml2)) := hc _ _ (by simp [List.getElem?_eq_getElem hml2])
            have e1 : (n : Int).tmod (tl : Int) = ((n % tl : Nat) : Int) := by
              rw [Int.tmod_eq_emod_of_nonneg (by omega)]; exact (Int.natCast_emod _ _).symm
            have g2 : 0 < (tl : Int) := by omega
            have g3 : ((tl : Int) == 0) = false := by rw [beq_eq_false_iff_ne]; omega
            generalize ts[n % tl]'hml2 = tv at *
            generalize n % tl = tm at *
            have hrd := fun w' => round_any tv 2 w' (by omega) (by omega)
            have Hrd := Lib.hid hrd
            have h01 := Int.emod_nonneg tv (show (2 : Int) ≠ 0 by omega)
            have h02 := Int.emod_lt_of_pos tv (show (0 : Int) < 2 by omega)
            obtain ⟨k, hk⟩ : ∃ k : Nat, tv % 2 = (k : Int) := ⟨(tv % 2).toNat, by omega⟩
            have Hk := Lib.hid hk
            have hk2 : k < 2 := by omega
            clear hrd hc h01 h02 hk hRT hml2
            go_wp2_with fail
            refine (Hrd.out _).mono ?_
            rintro e wx ⟨rfl, rfl⟩
            rw [Hk.out]
            go_wp2_with fail
            go_meet
            case rel => exact ⟨k, hk2, rfl, 0, rfl⟩
          · have g2 : ¬ 0 < (tl : Int) := by omega
            go_wp2_with fail
            go_meet
            case rel => exact ⟨0, by omega, rfl, 0, rfl⟩
        case rest =>
          obtain ⟨k, hk, rfl, m, rfl⟩ := hcut
          have hTq := HTwo.out.below (below_drewN (Below.refl wr.heap.size wr) m)
          have hbq : Below w.heap.size w (wr.drewN m) := below_drewN HbR.out m
          generalize wr.drewN m = wq at *
          have qT := hTq.cellT k hk
          have qTc := qT.1
          have qL := hTq.cellL k hk
          have hgTq := hTq.at_.lt
          have hgLq := hTq.lists.lt
          have HTq := Lib.hid hTq
          have Hbq := Lib.hid hbq
          have hik := Hi.out k hk
          have hnk := Hn.out k hk
          have hkI : (k : Int) < 2 := by omega
          clear hTq hbq HTwo HbR hT0 hT1 hL0 hL1 hgTr hgLr qT
          go_upto_region 13 with (fail)
          go_quiet (fail)
          go_upto_if 72 with (fail)
          have hq2 := HTq.out.below (below_drewN (Below.refl wq.heap.size wq) nq)
          have hbq2 : Below w.heap.size w (wq.drewN nq) := below_drewN Hbq.out nq
          generalize wq.drewN nq = wp at *
          have HTp := Lib.hid hq2
          have Hbp := Lib.hid hbq2
          clear hq2 hbq2 HTq Hbq qTc qL hgTq hgLq
          go_cut [12] from 38 to 102 (fun s wx => ∃ k : Nat, k < 2 ∧ i k < (l k).length ∧ s = .int .i64 (k : Int) ∧ wp = wx)
          case first =>
            by_cases hfull : i k < (l k).length
            · have g5 : ¬ (((l k).length : Int) ≤ (i k : Int)) := by omega
              go_wp2_with fail
              all_goals (go_meet; case rel => exact ⟨k, hk, hfull, rfl, rfl⟩)
            · have g5 : ((l k).length : Int) ≤ (i k : Int) := by omega
              rcases (show k = 0 ∨ k = 1 by omega) with rfl | rfl
              · go_wp2_with fail
                all_goals (go_meet; case rel => exact ⟨1, by omega, by omega, rfl, rfl⟩)
              · go_wp2_with fail
                all_goals (go_meet; case rel => exact ⟨0, by omega, by omega, rfl, rfl⟩)
          case rest =>
            obtain ⟨k2, hk2, hlt, rfl, rfl⟩ := hcut
            clear hik hnk hkI hk
            go_upto_if 77 with (fail)
            go_cut [13] from 38 to 102 (fun s wx => s = .pointer (some ⟨gw k2, 0, none⟩) ∧ wp = wx)
            case first =>
              rcases (show k2 = 0 ∨ k2 = 1 by omega) with rfl | rfl
              · go_wp2_with fail
                all_goals (go_meet; case rel => exact ⟨rfl, rfl⟩)
              · go_wp2_with fail
                all_goals (go_meet; case rel => exact ⟨rfl, rfl⟩)
            case rest =>
              obtain ⟨rfl, rfl⟩ := hcut
              obtain ⟨x, hxe⟩ : ∃ x, (l k2)[i k2]'hlt = x := ⟨_, rfl⟩
              have hzp := HTp.out.only.size
              have pT := (HTp.out.cellT k2 hk2).1
              have pF := (HTp.out.cellT k2 hk2).2
              have pL := HTp.out.cellL k2 hk2
              have hgTp := HTp.out.at_.lt
              have hgLp := HTp.out.lists.lt
              have hb2p : Below w2.heap.size w2 wp := Hb5.out.trans (HTp.out.only.below (by omega) fun q hq e => by rcases e with e | e | e <;> omega)
              have hb1p : Below w1.heap.size w1 wp := Hb2.out.trans (hb2p.mono hz2)
              have hRk : RV wp (AW k2) ((l k2).flatMap itemCells) := by
                rcases (show k2 = 0 ∨ k2 = 1 by omega) with rfl | rfl
                · exact (RV.of_own Hown1.out).below hb1p
                · exact (RV.of_own Hown2.out).below hb2p
              have hcells := fun j (hj : j < 3) => flatMap_get itemCells 3 (fun _ => rfl) (l k2) (i k2) j x (by rw [List.getElem?_eq_getElem hlt, hxe]) hj
              have hll : ((l k2).flatMap itemCells).length = (l k2).length * 3 := length_flatMap_const _ 3 (fun _ => rfl) _
              obtain ⟨b, off, hAk, hb, hc⟩ := hRk.at_ (by rw [hll]; omega)
              rw [hAk] at pL
              have q0 : wp.cell? ⟨b, off + i k2 * 3, none⟩ = some (.int .i64 x.kind) := hc _ _ (hcells 0 (by omega))
              have q1 : wp.cell? ⟨b, off + i k2 * 3 + 1, none⟩ = some (.int .i64 x.n) := by have := hc _ _ (hcells 1 (by omega)); rwa [← Nat.add_assoc] at this
              have q2 : wp.cell? ⟨b, off + i k2 * 3 + 2, none⟩ = some (.slice x.p.A x.p.ys.length x.p.c) := by have := hc _ _ (hcells 2 (by omega)); rwa [← Nat.add_assoc] at this
              have hnk := Hn.out k2 hk2
              have hokx := Hok.out k2 hk2 x (hxe ▸ List.getElem_mem hlt)
              have hle1 : (formsL ((l k2).take (i k2))).length ≤ 100 * (9 + 2000) := by
                refine Nat.le_trans (forms_le _ 2000 fun x hx => (Hok.out k2 hk2 x (List.mem_of_mem_take hx)).2.2) ?_
                refine Nat.mul_le_mul_right _ ?_
                rw [List.length_take]; omega
              have hle2 := itemL_le x
              have hroom := putItem_room (formsL ((l k2).take (i k2))) x hokx.1 (by have := hokx.2.2; omega)
              have hput := fun m => put_any w5.heap.size (gw k2) (A k2) (c k2) (formsL ((l k2).take (i k2))) 0 x (wp.drewN m) (((HTp.out.wrt k2 hk2)).below (below_drewN (Below.refl _ _) m)) (by omega) hzp
                ((hokx.2.1.below Hbp.out).below (below_drewN (Below.refl _ _) m)) hokx.1.toOk (hokx.2.1.sep ((HTp.out.wrt k2 hk2)) (by rcases (show k2 = 0 ∨ k2 = 1 by omega) with rfl | rfl <;> omega) hz52)
              rw [hroom] at hput
              have Hput := Lib.hid hput
              have hkI : (k2 : Int) < 2 := by omega
              have hltI : (i k2 : Int) < ((l k2).length : Int) := by omega
              have hHlt := Lib.hid hlt
              have Hxe := Lib.hid hxe
              clear hput hroom hle2 hle1 hokx hc hcells hll hRk hb1p hb2p hxe
              have hld : ∀ w', (∃ m, w' = wp.drewN m) → (Instr.loadAt 30 (.pointer (some ⟨b, off + i k2 * 3, none⟩))).run Try.prog w' = .ok x.val w' := by
                rintro _ ⟨m, rfl⟩
                go_simp
              have Hld := Lib.hid hld
              clear hld
              go_upto_region 18 with (fail)
              refine region_quiet_mid 9 (fun w' => ∃ m, w' = wp.drewN m) (by kernel_rfl) (by kernel_rfl) ⟨1, rfl⟩ ?_
              simp only [List.take_succ_cons, List.take_zero, List.drop_succ_cons, List.drop_zero]
              repeat (first
                | (go_big_quiet_want; refine quiet_load 30 _ rfl rfl Hld.out ?_; simp only [Act.put, List.setIfInBounds_toArray, List.set_cons_zero, List.set_cons_succ]; go_big_quiet_on)
                | go_big_quiet_step (fail))
              refine wpQuiet_nil ?_
              rintro _ ⟨m, rfl⟩
              refine wpOp_call (f := 19) (args := #[.pointer (some ⟨gw k2, 0, none⟩), x.val]) rfl (by rfl) rfl (by go_simp) (by go_simp) (d := 88) rfl ?_
              refine (Hput.out m).mono ?_
              rintro e w6 ⟨rfl, A3, c3, hW3, hA3, hO3⟩
              refine ⟨_, rfl, ?_⟩
              have HW3 := Lib.hid hW3
              have HA3 := Lib.hid hA3
              have HO3 := Lib.hid hO3
              have hz6 := hO3.size
              have hwz : (wp.drewN m).heap.size = wp.heap.size := rfl
              rw [hwz] at hz6
              have hne : ¬ wrS (gw k2) (A k2) gT := by
                rintro (e | e)
                · rcases (show k2 = 0 ∨ k2 = 1 by omega) with rfl | rfl <;> omega
                · have := ((HTp.out.wrt k2 hk2).lenA _ e).1; omega
              have hT6 := hO3.cell (p := ⟨gT, k2, none⟩) hgTp hne
              have hT6' : w6.cell? ⟨gT, k2, none⟩ = some (.int .i64 (i k2)) := hT6.trans pT
              have hF6 : w6.frozen? ⟨gT, k2, none⟩ = false := ((ocell hO3).2 gT k2 hgTp hne).trans pF
              clear hW3 hA3 hO3 hT6 hwz Hput Hld q0 q1 q2 pT pF pL
              simp only [Act.put, List.setIfInBounds_toArray, List.set_cons_zero, List.set_cons_succ]
              repeat (go_big_quiet_step (fail))
              refine wpQuiet_nil ?_
              rintro _ ⟨m2, rfl⟩
              have hW7 := HW3.out.below (below_drewN (Below.refl w6.heap.size w6) m2)
              have hO7 := HO3.out.trans (Only.of_fresh (below_drewN (Below.refl w6.heap.size w6) m2))
              have hT7 : (w6.drewN m2).cell? ⟨gT, k2, none⟩ = some (.int .i64 (i k2)) := hT6'
              have hF7 : (w6.drewN m2).frozen? ⟨gT, k2, none⟩ = false := hF6
              have hz7 : wp.heap.size ≤ (w6.drewN m2).heap.size := hz6
              clear HW3 HO3 hT6' hF6 hz6
              generalize w6.drewN m2 = w7 at *
              have HW7 := Lib.hid hW7
              have HO7 := Lib.hid hO7
              have hgT7 : gT < w7.heap.size := by omega
              have hgk : gw k2 < gT := by rcases (show k2 = 0 ∨ k2 = 1 by omega) with rfl | rfl <;> omega
              have hgk7 := hW7.blk.lt
              have hA7 : ∀ q, A3.map (·.block) = some q → q ≠ gT := fun q e e2 => by have := (hW7.lenA q e).1; omega
              have HA7 := Lib.hid hA7
              have hxx := hW7.own
              have hlx : (formsL ((l k2).take (i k2)) ++ itemL x).length ≤ 4194304 := by
                have hokx := Hok.out k2 hk2 x (Hxe.out ▸ List.getElem_mem hlt)
                have hle1 : (formsL ((l k2).take (i k2))).length ≤ 100 * (9 + 2000) := by
                  refine Nat.le_trans (forms_le _ 2000 fun x hx => (Hok.out k2 hk2 x (List.mem_of_mem_take hx)).2.2) ?_
                  refine Nat.mul_le_mul_right _ ?_
                  rw [List.length_take]; omega
                have hle2 := itemL_le x
                have := hokx.2.2
                rw [List.length_append]; omega
              clear hW7 hO7 hA7 hxx
              go_wp2_with fail
              have hO8 : Only (fun q => q = gT) w7 (w7.setCell ⟨gT, k2, none⟩ (.int .i64 ((i k2 : Int) + 1))) := (Only.refl (fun q => q = gT) w7).setCell (p := ⟨gT, k2, none⟩) (.inl rfl) _
              have hW8 := HW7.out.only hO8 (by omega) fun q e e2 => HA7.out q e e2
              have hdn := done_any w5.heap.size (gw k2) A3 c3 (formsL ((l k2).take (i k2)) ++ itemL x) 0 _ hW8 hlx
              have Hdn := Lib.hid hdn
              clear hdn hO8 hW8
              refine Hdn.out.mono ?_
              rintro e w9 ⟨A4, c4, rfl, hown4, hb9⟩
              rw [World.size_setCell] at hb9
              have hstep := (HTp.out.below (below_drewN (Below.refl _ _) m)).step hd1 hd2 hd3 hd4 hk2 hlt (w6 := w7) (w8 := w9) (A3 := A3) (c3 := c3) (by rw [Hxe.out]; exact HW7.out) HA3.out HO7.out (by exact hb9)
              have Hstep := Lib.hid hstep
              clear hstep hown4 hb9 Hdn
              go_wp2_with fail
              have hn := Hnn.out
              have hlt' : n < (l 0).length + (l 1).length := by rcases (show k2 = 0 ∨ k2 = 1 by omega) with rfl | rfl <;> omega
              refine ⟨⟨_, _, _, ?_, ?_, Hstep.out⟩, by simp [intOf]; omega⟩
              · intro k' hk'
                have h1 := Hi.out k' hk'
                split
                · rename_i e; subst e; omega
                · exact h1
              · rcases (show k2 = 0 ∨ k2 = 1 by omega) with rfl | rfl
                · show Value.int IntKind.i64 ((n : Int) + 1) = Value.int IntKind.i64 ((i 0 + 1 + i 1 : Nat) : Int)
                  rw [show i 0 + 1 + i 1 = n + 1 by omega]; rfl
                · show Value.int IntKind.i64 ((n : Int) + 1) = Value.int IntKind.i64 ((i 0 + (i 1 + 1) : Nat) : Int)
                  rw [show i 0 + (i 1 + 1) = n + 1 by omega]; rfl
    · have e0 : i 0 = (l 0).length := by omega
      have e1 : i 1 = (l 1).length := by omega
      have g0 : ¬ (i 0 : Int) < ((l 0).length : Int) := by omega
      have g1 : ¬ (i 1 : Int) < ((l 1).length : Int) := by omega
      have hW0 := HTwo.out.wrt 0 (by omega)
      have hW1 := HTwo.out.wrt 1 (by omega)
      rw [e0, List.take_length] at hW0
      rw [e1, List.take_length] at hW1
      have hF : ∀ k, k < 2 → (formsL (l k)).length ≤ 200900 := fun k hk => by
        refine Nat.le_trans (forms_le _ 2000 fun x hx => (Hok.out k hk x hx).2.2) ?_
        have := Nat.mul_le_mul_right (9 + 2000) (Hn.out k hk)
        omega
      have HF := Lib.hid hF
      have HW0 := Lib.hid hW0
      have HW1 := Lib.hid hW1
      have hg0r := hW0.blk.lt
      have hg1r := hW1.blk.lt
      clear e0 e1 hW0 hW1 hcont hF
      have hd0 := done_any w5.heap.size (gw 0) (A 0) (c 0) (formsL (l 0)) 0 wr HW0.out (by have := HF.out 0 (by omega); omega)
      have Hd0 := Lib.hid hd0
      clear hd0
      go_wp2_with fail
      refine Hd0.out.mono ?_
      rintro e w10 ⟨X, cX, rfl, hown10, hb10⟩
      have ed : ∀ xs : List UInt8, doneL xs 0 = xs := fun xs => by unfold doneL; rw [if_pos rfl]
      rw [ed] at hown10 ⊢
      have hd1' := done_any w5.heap.size (gw 1) (A 1) (c 1) (formsL (l 1)) 0 w10 (HW1.out.below hb10) (by have := HF.out 1 (by omega); omega)
      have Hd1 := Lib.hid hd1'
      have Hown10 := Lib.hid hown10
      have Hb10 := Lib.hid hb10
      have Hed := Lib.hid ed
      have hz10 := hb10.size
      clear hd1' hown10 hb10 Hd0 ed
      go_wp2_with fail
      refine Hd1.out.mono ?_
      rintro e w11 ⟨Y, cY, rfl, hown11, hb11⟩
      rw [Hed.out] at hown11 ⊢
      have hz11 := hb11.size
      have b11 : Below wr.heap.size wr w11 := Hb10.out.trans (hb11.mono hz10)
      have hTw := HTwo.out.below b11
      have hL0' := hTw.cellL 0 (by omega)
      have hL1' := hTw.cellL 1 (by omega)
      have hgL11 := hTw.lists.lt
      have Hown11 := Lib.hid hown11
      have Hb11 := Lib.hid hb11
      have HTw := Lib.hid hTw
      clear hown11 b11 hb11 hTw Hd1 hT0 hT1 hL0 hL1 Hed
      go_wp2_with fail
      obtain ⟨w13, hw13⟩ : ∃ w13, w13 = (w11.alloc (.cells #[.slice (AW 0) (l 0).length (cW 0), .slice none 0 0, .slice none 0 0, .pointer none] 83)).alloc (.cells #[.slice (AW 1) (l 1).length (cW 1), .slice none 0 0, .slice none 0 0, .pointer none] 83) := ⟨_, rfl⟩
      rw [← hw13]
      have hb13 : Below w11.heap.size w11 w13 := by rw [hw13]; exact ((Below.refl _ _).alloc (Nat.le_refl _) _).alloc (by simp) _
      have hz13 : w13.heap.size = w11.heap.size + 2 := by rw [hw13]; simp
      have kS : Blk w13 w11.heap.size 83 #[.slice (AW 0) (l 0).length (cW 0), .slice none 0 0, .slice none 0 0, .pointer none] := by rw [hw13]; exact (Blk.new w11 _ _).alloc _
      have kT : Blk w13 (w11.heap.size + 1) 83 #[.slice (AW 1) (l 1).length (cW 1), .slice none 0 0, .slice none 0 0, .pointer none] := by
        have h := Blk.new (w11.alloc (.cells #[.slice (AW 0) (l 0).length (cW 0), .slice none 0 0, .slice none 0 0, .pointer none] 83)) 83 #[.slice (AW 1) (l 1).length (cW 1), .slice none 0 0, .slice none 0 0, .pointer none]
        rw [World.size_alloc, ← hw13] at h
        exact h
      clear hw13
      have hzr := HTwo.out.only.size
      have b2r : Below w2.heap.size w2 wr := Hb5.out.trans (HTwo.out.only.below (by omega) fun q hq e => by rcases e with e | e | e <;> omega)
      have b2_11 : Below w2.heap.size w2 w11 := (b2r.trans (Hb10.out.mono (by omega))).trans (Hb11.out.mono (by omega))
      have b1_11 : Below w1.heap.size w1 w11 := Hb2.out.trans (b2_11.mono hz2)
      have b0_11 : Below w.heap.size w w11 := Hb1.out.trans (b1_11.mono hz1)
      have hA0 : ∀ b o, AW 0 = some ⟨b, o, none⟩ → b < w1.heap.size := fun b o e => (Own.row Hown1.out b (by rw [e]; rfl)).2
      have hA1 : ∀ b o, AW 1 = some ⟨b, o, none⟩ → b < w2.heap.size := fun b o e => (Own.row Hown2.out b (by rw [e]; rfl)).2
      have hR0 := (RV.of_own Hown1.out).below b1_11
      have hR1 := (RV.of_own Hown2.out).below b2_11
      have hX := (Sl.of_own Hown10.out).below Hb11.out
      have hread1 := read_sheet w11.heap.size cX (cW 0) X (AW 0) (l 0) w13 (hX.below hb13) kS (hR0.below hb13) (fun b o e => by have := hA0 b o e; omega) (fun x hx => (Hok.out 0 (by omega) x hx).1) (by have := HF.out 0 (by omega); omega) (by omega)
      have Hread1 := Lib.hid hread1
      have Hb13 := Lib.hid hb13
      have HkT := Lib.hid kT
      have HR0 := Lib.hid hR0
      have HR1 := Lib.hid hR1
      have HA1 := Lib.hid hA1
      have B2 := Lib.hid b2_11
      have B1 := Lib.hid b1_11
      have B0 := Lib.hid b0_11
      clear hread1 hb13 kS kT hX hR0 hR1 hA0 hA1 b2r b2_11 b1_11 b0_11 hL0' hL1'
      refine Hread1.out.mono ?_
      rintro e w14 ⟨rfl, hO14, g1, base1, AT1, cT1, AL1, cL1, told1, hbase1, hS1⟩
      have hz14 := hO14.size
      have b14 : Below w11.heap.size w11 w14 := Hb13.out.trans (hO14.below (by omega) fun q hq e => by omega)
      have hread2 := read_sheet (w11.heap.size + 1) cY (cW 1) Y (AW 1) (l 1) w14 ((Sl.of_own Hown11.out).below b14) (HkT.out.only hO14 (by omega)) (HR1.out.below b14) (fun b o e => by have := HA1.out b o e; omega) (fun x hx => (Hok.out 1 (by omega) x hx).1) (by have := HF.out 1 (by omega); omega) (by omega)
      have Hread2 := Lib.hid hread2
      have HS1 := Lib.hid hS1
      have B14 := Lib.hid b14
      clear hread2 hO14 hS1 b14 Hread1 HkT
      go_wp2_with fail
      refine Hread2.out.mono ?_
      rintro e w15 ⟨rfl, hO15, g2, base2, AT2, cT2, AL2, cL2, told2, hbase2, hS2⟩
      have hz15 := hO15.size
      have b15 : Below w11.heap.size w11 w15 := B14.out.trans (hO15.below (by omega) fun q hq e => by omega)
      have hS1 := HS1.out.only hO15 (fun b e => by omega) (by omega)
      have hTw := HTw.out.below b15
      have x1 : ∀ x : BW w15.heap.size w15, x.w.cell? ⟨w11.heap.size, 1, none⟩ = some (.slice AT1 (l 0).length cT1) := fun x => (x.cell (by omega)).trans (hS1.blk.cell 1)
      have x2 : ∀ x : BW w15.heap.size w15, x.w.cell? ⟨w11.heap.size + 1, 1, none⟩ = some (.slice AT2 (l 1).length cT2) := fun x => (x.cell (by omega)).trans (hS2.blk.cell 1)
      have x3 : ∀ x : BW w15.heap.size w15, x.w.cell? ⟨gL, 0, none⟩ = some (.slice (AW 0) (l 0).length (cW 0)) := fun x => (x.cell (by omega)).trans (hTw.cellL 0 (by omega))
      have x4 : ∀ x : BW w15.heap.size w15, x.w.cell? ⟨gL, 1, none⟩ = some (.slice (AW 1) (l 1).length (cW 1)) := fun x => (x.cell (by omega)).trans (hTw.cellL 1 (by omega))
      have b0_15 : Below w.heap.size w w15 := B0.out.trans (b15.mono (by omega))
      have hs1 : ∀ x : BW w15.heap.size w15, Calls Try.prog 51 #[.slice AT1 (l 0).length cT1, .slice (AW 0) (l 0).length (cW 0)] x.w fun e w' => e = .returned (.bool true) ∧ ∃ m, w' = x.w.drewN m := fun x =>
        sameI_any AT1 (AW 0) cT1 (cW 0) told1 (l 0) x.w ((RV.of_own hS1.rowT).below x.h) ((HR0.out.below b15).below x.h) hS1.len hS1.mat (fun y hy => (show Sl w15 y.p from ⟨(hS1.own y hy).rv, (hS1.own y hy).nil⟩).below x.h) (fun y hy => ((Hok.out 0 (by omega) y hy).2.1.below b0_15).below x.h) (fun y hy => by have := (Hok.out 0 (by omega) y hy).2.2; omega) (by omega)
      have hs2 : ∀ x : BW w15.heap.size w15, Calls Try.prog 51 #[.slice AT2 (l 1).length cT2, .slice (AW 1) (l 1).length (cW 1)] x.w fun e w' => e = .returned (.bool true) ∧ ∃ m, w' = x.w.drewN m := fun x =>
        sameI_any AT2 (AW 1) cT2 (cW 1) told2 (l 1) x.w ((RV.of_own hS2.rowT).below x.h) ((HR1.out.below b15).below x.h) hS2.len hS2.mat (fun y hy => (show Sl w15 y.p from ⟨(hS2.own y hy).rv, (hS2.own y hy).nil⟩).below x.h) (fun y hy => ((Hok.out 1 (by omega) y hy).2.1.below b0_15).below x.h) (fun y hy => by have := (Hok.out 1 (by omega) y hy).2.2; omega) (by omega)
      have Hs1 := Lib.hid hs1
      have Hs2 := Lib.hid hs2
      have B15 := Lib.hid b0_15
      clear hO15 hS2 hS1 hTw b15 b0_15 hs1 hs2 HS1 B14 Hread2
      go_upto_region 32 with (fail)
      refine region_inB w15.heap.size w15 (Below.refl _ _) (by kernel_rfl) (by kernel_rfl) ?_
      repeat (go_big_quiet_step (first
        | with_reducible exact Calls.inBdrew _ (Hs1.out _)
        | with_reducible exact Calls.inBdrew _ (Hs2.out _)
        | with_reducible exact Calls.inBat _ (head_any _) (Nat.le_refl _)))
      refine wpQuiet_nil ?_
      intro w16 hb16
      go_wp2_with fail
      go_ret
      exact ⟨rfl, B15.out.trans (hb16.mono B15.out.size)⟩
end Go.Proofs.Ytefaapcekbgjoaa
