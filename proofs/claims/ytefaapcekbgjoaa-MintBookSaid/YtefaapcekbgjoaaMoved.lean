/- The walk of the law's moved. -/
import Derived.Test.YtefaapcekbgjoaaReadG
import Derived.Test.YtefaapcekbgjoaaReadS
import Derived.Test.YtefaapcekbgjoaaInB
import Derived.Test.YtefaapcekbgjoaaGrownL
import Derived.Test.YtefaapcekbgjoaaHeldT
import Derived.Deep.RegionHeld3
import Derived.Deep.CutRange
namespace Go.Proofs.Ytefaapcekbgjoaa
open Go.RowKit

def zeroL (bs : List UInt8) (j : Nat) : List UInt8 := List.replicate j 0 ++ bs.drop j
theorem zeroL_next (bs : List UInt8) (j : Nat) (h : j < bs.length) : zeroL bs (j + 1) = (zeroL bs j).set j 0 := by
  unfold zeroL
  rw [List.set_append_right _ _ (by simp), List.length_replicate, Nat.sub_self, List.drop_eq_getElem_cons h, List.set_cons_zero, List.replicate_succ', List.append_assoc]
  rfl
theorem zeroL_full (bs : List UInt8) : zeroL bs bs.length = List.replicate bs.length 0 := by
  unfold zeroL
  rw [List.drop_length, List.append_nil]
theorem run_zeros (n : Nat) (h63 : n ≤ maxLen) (w : World) (hb : n ≤ 281474976710656) : (Instr.makeSlice 22 (.int .i64 (n : Int)) (.int .i64 (n : Int))).run Try.prog w = .ok (.slice (some ⟨w.heap.size, 0, none⟩) n n) (w.alloc (.cells (List.replicate n (.int .u8 0)).toArray 5)) := by
  obtain ⟨i, hi, h1, h2, h3⟩ := info_parts (show (Try.prog.info? 5).map (fun i => (i.zero, i.size, i.bytes)) = some (some (.int .u8 0), 1, 1) by kernel_rfl)
  have hr := run_make (P := Try.prog) w 22 5 i (.int .u8 0) (Try.underlying22) hi h1 .i64 .i64 n n (by omega) (Int.le_refl _) (by rw [h3]; omega) (by simp only [maxLen] at h63; omega)
  simp only [Int.toNat_natCast] at hr
  have hcells : madeCells (Value.int .u8 0).cells (n * i.size) = (List.replicate n (.int .u8 0)).toArray := by
    rw [h2, Nat.mul_one]
    exact Array.toList_inj.1 (by rw [show (Value.int .u8 0).cells = #[.int .u8 0] from rfl, toList_madeCells_one])
  rw [hcells] at hr
  exact hr
set_option maxRecDepth 100000 in
set_option maxHeartbeats 4000000 in
theorem moved_any (A AW : Option Addr) (c cW : Nat) (bs : List UInt8) (all : List Item) (w : World) (hp : Sl w ⟨A, c, bs⟩) (hbs : bs = formsL all) (hR : RV w AW (all.flatMap itemCells)) (hAW : ∀ b o, AW = some ⟨b, o, none⟩ → b < w.heap.size) (hok : ∀ x ∈ all, Okay x) (hl : bs.length ≤ 4194304) (hn : all.length ≤ 400) :
    Calls Try.prog 54 #[.slice A bs.length c, .slice AW all.length cW] w fun e w' => e = .returned (.bool true) ∧ Below w.heap.size w w' := by
  have hmf : ∀ (fn : Fn) (first cap : Array Value) (w : World), (Instr.makeFunc fn first cap).run Try.prog w = .ok (.func fn first cap) w := fun _ _ _ _ => rfl
  have Hp := Lib.hid hp
  have HR := Lib.hid hR
  have Hok := Lib.hid hok
  have Hbs := Lib.hid hbs
  have HAW := Lib.hid hAW
  clear hp hR hok hbs hAW
  go_enter Try.func54, Try.ntmps54
  go_wp2_with (refine wpList_at 13 rfl ?_; refine wp_stop ?_)
  refine ⟨?_⟩
  have hown0 : OwnB (w.alloc (.cells #[] 5)) w.heap.size (some ⟨w.heap.size, 0, none⟩) 0 0 [] := ⟨rfl, .inr ⟨w.heap.size, 0, #[], rfl, Nat.le_refl _, heap_alloc_new w _, Nat.le_refl _, by unfold maxLen; omega, rfl, rfl⟩⟩
  have hb0 : Below w.heap.size w (w.alloc (.cells #[] 5)) := (Below.refl _ _).alloc (Nat.le_refl _) _
  refine wpList_app rfl (.tmp 11) (.tmp 12) eByte rfl (base := w.heap.size) (n := 0) (c := 0) (A := some ⟨w.heap.size, 0, none⟩) (vs := []) rfl hown0 (A' := A) (m := bs.length) (c' := c) (us := bs.map bv) rfl (Hp.out.rv.below hb0) (by simp) (map_bv_one _) (by unfold maxLen; omega) (by omega) (by simp) (fun h => Hp.out.nil h) ?_
  intro A2 c2 w2 hown2 hg2 hat2
  have hB2 : Below w.heap.size w w2 := hb0.grown hg2 (by simp) fun q hq => (Own.row hown0 q hq).1
  rw [Nat.zero_add] at hown2 ⊢
  have hz2 := hB2.size
  have Hown2 := Lib.hid (show OwnB w2 w.heap.size A2 bs.length c2 bs from hown2)
  have HB2 := Lib.hid hB2
  clear hown0 hb0 hown2 hg2 hat2 hB2
  go_wp2_with fail
  obtain ⟨w3, hw3⟩ : ∃ w3, w3 = w2.alloc (.cells #[.slice AW all.length cW, .slice none 0 0, .slice none 0 0, .pointer none] 83) := ⟨_, rfl⟩
  rw [← hw3]
  have hb3 : Below w2.heap.size w2 w3 := by rw [hw3]; exact (Below.refl _ _).alloc (Nat.le_refl _) _
  have hz3 : w3.heap.size = w2.heap.size + 1 := by rw [hw3]; simp
  have hB3 : Blk w3 w2.heap.size 83 #[.slice AW all.length cW, .slice none 0 0, .slice none 0 0, .pointer none] := by rw [hw3]; exact Blk.new _ _ _
  have hb03 : Below w.heap.size w w3 := HB2.out.trans (hb3.mono hz2)
  have hown3 := Own.below Hown2.out hb3 (Nat.le_refl _)
  have hread := read_sheet w2.heap.size c2 cW A2 AW all w3 (by rw [← Hbs.out]; exact Sl.of_own hown3) hB3 (HR.out.below hb03) (fun b o e => by have := HAW.out b o e; omega) Hok.out (by rw [← Hbs.out]; omega) hn
  rw [← Hbs.out] at hread
  have Hread := Lib.hid hread
  have Hown3 := Lib.hid hown3
  have Hb03 := Lib.hid hb03
  clear hread hown3 hb03 hb3 hB3 hw3
  refine Hread.out.mono ?_
  rintro e w4 ⟨rfl, hO4, -⟩
  have hown4 := Own.only Hown3.out hO4 fun b o e h => by have := (Own.row Hown2.out b (by rw [e]; rfl)).2; omega
  have hb04 : Below w.heap.size w w4 := Hb03.out.trans (hO4.below (by omega) fun q hq e => by omega)
  have Hown4 := Lib.hid hown4
  have Hb04 := Lib.hid hb04
  have hz4 := hO4.size
  clear hown4 hb04 hO4 Hread
  go_wp2_with fail
  go_loopw [8] (fun i wr => ∃ j : Nat, j ≤ bs.length ∧ i = .int .i64 j ∧ OwnB wr w.heap.size A2 bs.length c2 (zeroL bs j) ∧ Below w.heap.size w wr) (fun i _ => bs.length - (intOf i).toNat)
  case atStart => exact ⟨0, Nat.zero_le _, rfl, by simpa [zeroL] using Hown4.out, Hb04.out⟩
  case round =>
    rename World => w5
    obtain ⟨j, hj, rfl, hown, hB⟩ := hrel
    have hsz := hB.size
    by_cases hlt : j < bs.length
    · have g1 : (j : Int) < (bs.length : Int) := by omega
      obtain ⟨g, rfl⟩ : ∃ g, A2 = some ⟨g, 0, none⟩ := by
        rcases hown.2 with ⟨hv, h0⟩ | ⟨g, cap, cur, hv, _⟩
        · omega
        · exact ⟨g, by injection hv⟩
      obtain ⟨⟨v, hv⟩, hf, hgl⟩ := own_cell hown j hlt
      have hput := own_put hown j 0
      rw [← zeroL_next bs j hlt] at hput
      have hgw := (Own.row hown g rfl).1
      have Hput := Lib.hid hput
      have HB := Lib.hid hB
      clear hput hown hB
      go_wp2_with fail
      exact ⟨⟨j + 1, by omega, by go_num, Hput.out, HB.out.setCell hgw _⟩, by simp [intOf]; omega⟩
    · obtain rfl : j = bs.length := by omega
      rw [zeroL_full] at hown
      have Hown := Lib.hid hown
      have HB := Lib.hid hB
      clear hown hB hlt
      go_wp2_with fail
      obtain ⟨w6, hw6⟩ : ∃ w6, w6 = (w5.alloc (.cells #[.int .i64 6, .int .i64 0, .slice A bs.length c] 30)).alloc (.cells #[.slice (some ⟨w5.heap.size, 0, none⟩) 1 1, .slice none 0 0, .slice none 0 0, .pointer none] 83) := ⟨_, rfl⟩
      rw [← hw6]
      have hb6 : Below w5.heap.size w5 w6 := by rw [hw6]; exact ((Below.refl _ _).alloc (Nat.le_refl _) _).alloc (by simp) _
      have hz6 : w6.heap.size = w5.heap.size + 2 := by rw [hw6]; simp
      have hB6 : Blk w6 (w5.heap.size + 1) 83 #[.slice (some ⟨w5.heap.size, 0, none⟩) 1 1, .slice none 0 0, .slice none 0 0, .pointer none] := by
        rw [hw6]
        have h := Blk.new (w5.alloc (.cells #[.int .i64 6, .int .i64 0, .slice A bs.length c] 30)) 83 #[.slice (some ⟨w5.heap.size, 0, none⟩) 1 1, .slice none 0 0, .slice none 0 0, .pointer none]
        rw [show (w5.alloc (.cells #[.int .i64 6, .int .i64 0, .slice A bs.length c] 30)).heap.size = w5.heap.size + 1 from by simp] at h
        exact h
      have hI6 : Blk w6 w5.heap.size 30 #[.int .i64 6, .int .i64 0, .slice A bs.length c] := by
        rw [hw6]
        exact (Blk.new w5 _ _).below ((Below.refl _ _).alloc (Nat.le_refl _) _) (by simp)
      obtain ⟨zs, hzs⟩ : ∃ zs : List UInt8, zs = List.replicate bs.length 0 := ⟨_, rfl⟩
      have hzl : zs.length = bs.length := by rw [hzs, List.length_replicate]
      rw [← hzs] at Hown
      have hfz : formsL [⟨6, 0, ⟨A, c, zs⟩⟩] = zs := by simp [formsL, itemL]
      have hrow : RV w6 (some ⟨w5.heap.size, 0, none⟩) (List.flatMap itemCells [⟨6, 0, ⟨A, c, zs⟩⟩]) := by
        have h := RV.of_blk hI6
        rw [← hzl] at h
        exact h
      have hb06 : Below w.heap.size w w6 := HB.out.trans (hb6.mono (by omega))
      have hown6 : OwnB w6 w.heap.size A2 zs.length c2 zs := by rw [hzl]; exact Own.below Hown.out hb6 (Nat.le_refl _)
      have hread2 := read_sheet (w5.heap.size + 1) c2 1 A2 (some ⟨w5.heap.size, 0, none⟩) [⟨6, 0, ⟨A, c, zs⟩⟩] w6 (by rw [hfz]; exact Sl.of_own hown6) hB6 hrow (fun b o e => by cases e; omega)
        (fun x hx => by
          rw [List.mem_singleton.1 hx]
          exact ⟨by dsimp only; omega, by dsimp only; omega, fun h => by (dsimp only at h; omega), fun h => by (dsimp only at h; omega), by dsimp only; omega, by dsimp only; omega, by dsimp only; omega⟩) (by rw [hfz]; omega) (by simp)
      rw [hfz, hzl] at hread2
      have Hread2 := Lib.hid hread2
      have Hb06 := Lib.hid hb06
      have Hzs := Lib.hid hzs
      have Hzl := Lib.hid hzl
      clear hread2 hb06 hrow hB6 hI6 hb6 hw6 hown6 hfz hzs hzl
      refine Hread2.out.mono ?_
      rintro e w7 ⟨rfl, hO7, g7, base7, AT, cT, AL, cL, told, hbase7, hS⟩
      have hb07 : Below w.heap.size w w7 := Hb06.out.trans (hO7.below (by omega) fun q hq e => by omega)
      obtain ⟨y, hy, hAs⟩ := hS.mat 0 (by simp) (by simp)
      have hlen := hS.len
      have htold : told = [y] := by
        match told, hlen, hy with
        | [z], _, h => simp at h; rw [h]
      subst htold
      have hk6 : y.kind = 6 := hAs.kind
      have hyz : y.p.ys = zs := hAs.ys (show (3 : Int) < 6 by decide)
      have hyo : Sl w7 y.p := ⟨(hS.own y (by simp)).rv, (hS.own y (by simp)).nil⟩
      have hcells := RV.of_own hS.rowT
      obtain ⟨b, off, rfl, hbl, hcc⟩ := hcells.at_ (by simp [itemCells])
      have y2 : w7.cell? ⟨b, off + 2, none⟩ = some (.slice y.p.A y.p.ys.length y.p.c) := hcc 2 _ rfl
      have s1 : w7.cell? ⟨w5.heap.size + 1, 1, none⟩ = some (.slice (some ⟨b, off, none⟩) 1 cT) := hS.blk.cell 1
      have hgs7 := hS.blk.lt
      have hz7 := hO7.size
      obtain ⟨⟨yk, yn, ⟨yA, yc, yys⟩⟩, hye⟩ : ∃ y', y' = y := ⟨_, rfl⟩
      subst hye
      dsimp only at hyz hyo y2
      subst hyz
      rw [Hzl.out] at y2
      have hsame : ∀ (w8 : World) (q : Nat), Blk w8 q 5 (List.replicate bs.length (.int .u8 0)).toArray → Below w7.heap.size w7 w8 → Calls Try.prog 14 #[.slice yA bs.length yc, .slice (some ⟨q, 0, none⟩) bs.length bs.length] w8 (QuietRet w8 (.bool true)) := fun w8 q hq hb => by
        have h := same_any ⟨yA, yc, yys⟩ ⟨some ⟨q, 0, none⟩, bs.length, yys⟩ w8 (hyo.below hb) ⟨by
          have h := RV.of_blk hq
          rw [show (List.replicate bs.length (Value.int .u8 0)) = yys.map bv from by rw [Hzs.out, List.map_replicate]; rfl] at h
          exact h, fun h => by cases h⟩ (by have := Hzl.out; dsimp only; omega) (by have := Hzl.out; dsimp only; omega)
        dsimp only at h
        rw [Hzl.out, show (yys == yys) = true from by simp] at h
        exact h
      have Hsame := Lib.hid hsame
      have Hb07 := Lib.hid hb07
      have hbl7 : bs.length ≤ maxLen := by unfold maxLen; omega
      clear hsame hS hO7 hb07 hy hAs hlen hcells hcc hyo Hread2 hbase7
      go_upto_region 10 with (fail)
      have hkeep : ∀ w', Below w7.heap.size w7 w' → w'.cell? ⟨w5.heap.size + 1, 1, none⟩ = some (.slice (some ⟨b, off, none⟩) 1 cT) ∧ w'.cell? ⟨b, off + 2, none⟩ = some (.slice yA bs.length yc) := fun w' h => ⟨by rw [(bcell h).1 _ _ hgs7]; exact s1, by rw [(bcell h).1 _ _ hbl]; exact y2⟩
      have Hkeep := Lib.hid hkeep
      clear hkeep
      have hmk := fun w => run_zeros bs.length hbl7 w (by omega)
      obtain ⟨w8, hw8⟩ : ∃ w8, w8 = (w7.alloc (.cells (Array.replicate bs.length (.int .u8 0)) 5)).drew := ⟨_, rfl⟩
      have hb8 : Below w7.heap.size w7 w8 := by rw [hw8]; exact below_drewN ((Below.refl _ _).alloc (Nat.le_refl _) _) 1
      have hcall := Hsame.out w8 w7.heap.size (by rw [hw8, List.toArray_replicate]; exact (show ∀ (wa : World), Blk wa w7.heap.size 5 (Array.replicate bs.length (.int .u8 0)) → Blk wa.drew w7.heap.size 5 (Array.replicate bs.length (.int .u8 0)) from fun wa h => h.below (below_drewN (Below.refl wa.heap.size wa) 1) h.lt) _ (Blk.new w7 _ _)) hb8
      have Hb08 := Lib.hid ((Hb07.out.trans ((show Below w7.heap.size w7 (w7.alloc (.cells (Array.replicate bs.length (.int .u8 0)) 5)) from (Below.refl _ _).alloc (Nat.le_refl _) _).mono (by omega))))
      rw [hw8] at hcall
      have Hcall := Lib.hid hcall
      have Hb8 := Lib.hid (hw8 ▸ hb8)
      clear hcall hb8 hw8
      go_region_held3 (fun w' => w'.cell? ⟨w5.heap.size + 1, 1, none⟩ = some (.slice (some ⟨b, off, none⟩) 1 cT) ∧ w'.cell? ⟨b, off + 2, none⟩ = some (.slice yA bs.length yc)) (first | go_keep | exact Hkeep.out _ Hb8.out | exact Hkeep.out _ (below_drewN Hb8.out _))
        (first
          | (go_at_call 14; ((with_reducible refine Hcall.out.mono ?_); rintro e w9 ⟨rfl, m9, rfl⟩)))
      all_goals
        go_wp2_with fail
        go_ret
        exact ⟨rfl, below_drewN Hb08.out (1 + m9)⟩
end Go.Proofs.Ytefaapcekbgjoaa
