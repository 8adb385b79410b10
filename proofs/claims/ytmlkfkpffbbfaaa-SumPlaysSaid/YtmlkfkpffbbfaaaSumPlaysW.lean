/- The walk of the law SumPlays. -/
import Derived.Test.YtmlkfkpffbbfaaaPlayB
import Derived.Test.YtmlkfkpffbbfaaaSumOfW
import Derived.Test.YtmlkfkpffbbfaaaInB
import Derived.Test.YtmlkfkpffbbfaaaHeldT
import Derived.Deep.RegionHeld3
namespace Go.Proofs.Ytmlkfkpffbbfaaa
open Go.RowKit

def sv (s : StepI) : Value := .slice s.A s.ys.length s.c
theorem below_step {B : Nat} {w0 w w' : World} (h : Below B w0 w) (hB : B ≤ w0.heap.size) (hb : Below w.heap.size w w') : Below B w0 w' := h.trans (hb.mono (by have := h.size; omega))
theorem step_at2 {P : Program} {ops : Array Oper} {o : Oper} {a : Act} {w : World} {K : Act → World → Prop} {Q : Exit → Act → World → Prop} {F : Prop} (d : Nat) (_hd : o.dst = some d) (h : if Region.wanted o (yielded ops a.tmps) = true then Oper.wp P o a w K Q else F) : if Region.wanted o (yielded ops a.tmps) = true then Oper.wp P o a w K Q else F := h
theorem eRows : Elem Try.prog 22 25 1 24 := elem_of Try.underlying22 slice_info rfl (by decide)
theorem parts_of {w : World} {A : Option Addr} {l : List StepI} (h : RV w A (l.map sv)) (hg : ∀ s ∈ l, GoodS w s) : PartsN w A (l.map (·.ys)) := by
  refine ⟨l.map sv, h, by simp, fun i hi => ?_⟩
  rw [List.length_map] at hi
  have g := hg l[i] (List.getElem_mem hi)
  refine ⟨sv l[i], by rw [List.getElem?_map, List.getElem?_eq_getElem hi]; rfl, ?_⟩
  rw [List.getElem_map]
  exact ⟨_, _, rfl, g.rv, g.cap, g.max, g.nil, g.len⟩
theorem quiet_neArr {P : Program} {o : Oper} {a : Act} {C : World → Prop} {K : Act → Prop} (T : TypeId) (x y : Operand) {Ty : TypeId} {e : TypeId} {k : IntKind} {n : Nat} (ho : o.op = .binOp .neq T x y Ty)
    (ht : P.underlying T = some (.array n e)) (he : P.underlying e = some (.int k)) (hs : (P.info? e).map (·.size) = some 1) (hg : P.eqGuardType P.depth T = false) {l m : List UInt8} (hx : a.eval x = aggB l) (hy : a.eval y = aggB m) (h1 : l.length = n) (h2 : m.length = n)
    (hk : K (a.put o.dst (.bool (!decide (l = m))))) : o.quiet P a C K := by
  refine ⟨_, fun w hw => ?_, hk⟩
  have hgd : (eqGuard .neq T x y (aggB l) (aggB m)).run P w = .ok () w := run_eqGuard_agg w .neq T x y _ _ hg
  have hb : (binOp .neq T (aggB l) (aggB m)).run P w = .ok (.bool (!decide (l = m))) w := run_neqArr ht he hs h1 h2
  unfold Oper.quietAt execOp
  simp only [ho, hx, hy, Sem.run_bind, hgd, hb, Result.andThen_ok, Sem.run_pure]
  exact ⟨rfl, rfl⟩
/-- A contract of Less with its answer known. -/
def tot (l : List StepI) (k : Nat) : Nat := ((l.take k).map (·.ys)).flatten.length
theorem tot_next (l : List StepI) (k : Nat) (h : k < l.length) : tot l (k + 1) = tot l k + l[k].ys.length := by
  unfold tot
  rw [List.take_succ_eq_append_getElem h, List.map_append, List.flatten_append, List.length_append]
  simp
theorem tot_le (l : List StepI) : ∀ d k, k + d = l.length → tot l k ≤ (l.map (·.ys)).flatten.length
  | 0, k, h => by unfold tot; rw [List.take_of_length_le (by omega)]; exact Nat.le_refl _
  | d + 1, k, h => by have := tot_le l d (k + 1) (by omega); rw [tot_next l k (by omega)] at this; omega
set_option maxRecDepth 100000 in
set_option maxHeartbeats 4000000 in
theorem plays_walk (A0 : Option Addr) (c0 : Nat) (l : List StepI) (w : World) (hI : RV w A0 (l.flatMap stepCells) ∧ ∀ s ∈ l, GoodS w s) (hl : l.length ≤ 3518437208780) :
    Calls Try.prog 5 #[.slice A0 l.length c0] w fun e w' => e = .returned (.bool true) ∧ Below w.heap.size w w' := by
  have HI := Lib.hid hI
  clear hI
  go_enter Try.func5, Try.ntmps5
  go_wp2_with fail
  refine (known_any w).mono ?_
  rintro e w1 ⟨rfl, hb1⟩
  have Hb1 := Lib.hid hb1
  have hz1 := hb1.size
  clear hb1
  go_wp2_with fail
  go_loopw [3, 4] (fun v i wr => ∃ (k : Nat) (AP : Option Addr) (cP : Nat), k ≤ l.length ∧ i = .int .i64 k ∧ v = .slice AP k cP ∧ Own wr w1.heap.size 25 1 AP k cP ((l.take k).map sv) ∧ Below w1.heap.size w1 wr) (fun _ i _ => l.length - (intOf i).toNat)
  case atStart => exact ⟨0, none, 0, Nat.zero_le _, rfl, rfl, Own.nil _ _ _ _, Below.refl _ _⟩
  case round =>
    rename World => w2
    obtain ⟨k, AP, cP, hk, rfl, rfl, hown, hB⟩ := hrel
    have hsz := hB.size
    have Hown := Lib.hid hown
    have HB := Lib.hid hB
    clear hown hB
    by_cases hlt : k < l.length
    · have g1 : (k : Int) < (l.length : Int) := by omega
      have hRr := HI.out.1.below (Hb1.out.trans (HB.out.mono hz1))
      obtain ⟨b, off, rfl, hb, hc⟩ := hRr.at_ (by rw [stepCells_len]; omega)
      have q2 : w2.cell? ⟨b, off + k * 3 + 2, none⟩ = some (sv l[k]) := by have := hc _ _ (stepCells_get l k 2 hlt (by omega)); rwa [← Nat.add_assoc] at this
      have htk : (l.take (k + 1)).map sv = (l.take k).map sv ++ [sv l[k]] := by rw [List.take_succ_eq_append_getElem hlt, List.map_append]; rfl
      have Htk := Lib.hid htk
      obtain ⟨x, hx⟩ : ∃ x : StepI, x = l[k] := ⟨_, rfl⟩
      rw [← hx] at q2 Htk
      unfold sv at q2
      have hRow : RV (w2.alloc (.cells #[.slice x.A x.ys.length x.c] 25)) (some ⟨w2.heap.size, 0, none⟩) [.slice x.A x.ys.length x.c] := RV.of_blk (Blk.new w2 _ #[_])
      have HRow := Lib.hid hRow
      clear hRr hc htk hx hRow
      go_wp2_with (refine wpList_at 29 rfl ?_; refine wp_stop ?_)
      refine ⟨?_⟩
      refine wpList_app rfl (.tmp 22) (.tmp 28) eRows rfl (base := w1.heap.size) (n := k) (c := cP) (A := AP) (vs := (l.take k).map sv) rfl (Hown.out.alloc _) (A' := some ⟨w2.heap.size, 0, none⟩) (m := 1) (c' := 1) (us := [.slice x.A x.ys.length x.c]) rfl HRow.out rfl (by intro u hu; rw [List.mem_singleton.1 hu]; rfl) (by unfold maxLen; omega) (by omega) (by simp; omega) (by simp) ?_
      intro A3 c3 w3 hown3 hg3 hat3
      have hb3 : Below w1.heap.size w1 w3 := (HB.out.alloc hsz _).grown hg3 (by simp; omega) fun q hq => (Own.row Hown.out q hq).1
      have Hown3 := Lib.hid hown3
      have Hb3 := Lib.hid hb3
      clear hown3 hg3 hat3 hb3 HRow
      go_wp2_with fail
      exact ⟨⟨k + 1, A3, c3, by omega, by go_num, rfl, by rw [Htk.out]; exact Hown3.out, Hb3.out⟩, by simp [intOf]; omega⟩
    · obtain rfl : k = l.length := by omega
      rw [List.take_length] at Hown
      obtain ⟨T, hT⟩ : ∃ T, T = (l.map (·.ys)).flatten.length := ⟨_, rfl⟩
      have HB02 := Lib.hid (Hb1.out.trans (HB.out.mono hz1))
      have hby := beyond_any (l.map (·.ys)) AP cP w2 (parts_of (RV.of_own Hown.out) fun s hs => (HI.out.2 s hs).below HB02.out) (by rw [List.length_map]; unfold maxLen; omega) T hT
      rw [List.length_map] at hby
      have Hby := Lib.hid hby
      have HT := Lib.hid hT
      clear hby hT Hown
      go_wp2_with fail
      refine Hby.out.mono ?_
      rintro e w3 ⟨rfl, rfl⟩
      clear Hby
      by_cases hbig : 2147483647 < T
      · rw [decide_eq_true hbig]
        clear hbig
        go_wp2_with fail
        go_ret
        exact ⟨rfl, HB02.out⟩
      rw [decide_eq_false hbig]
      go_wp2_with (first
        | (refine wpList_at 5 rfl ?_; refine wpList_allocZ rfl 41 rfl (List.replicate 3 (.pointer none)) (fun ev w => by kernel_rfl) ?_; intro w4 hblk4 hb4 hz4)
        | (refine wpList_at 6 rfl ?_; refine wpList_allocZ rfl 42 rfl (List.replicate 3 (.slice none 0 0)) (fun ev w => by kernel_rfl) ?_; intro w5 hblk5 hb5 hz5))
      have hlow : (lRow 0 fun _ => 0) = List.replicate 3 (.pointer none) := rfl
      have halow : (aRow (fun _ => []) (fun _ => none) fun _ => 0) = List.replicate 3 (.slice none 0 0) := rfl
      have hpl5 : Play w5 w3.heap.size w3.heap.size (w3.heap.size + 1) 0 (fun _ => 0) (fun _ => []) (fun _ => []) (fun _ => none) (fun _ => 0) := by
        refine ⟨?_, ?_, fun k h => absurd h (by omega), fun i j h => absurd h (by omega), fun k _ => Own.nil _ _ _ _, fun i j _ _ _ b h => (by cases h), fun k h => absurd h (by omega), Nat.le_refl _, by omega⟩
        · rw [hlow]; exact hblk4.below hb5 hblk4.lt
        · rw [halow, ← hz4]; exact hblk5
      have HB5 := Lib.hid (hb4.trans (hb5.mono (by omega)))
      have Hpl5 := Lib.hid hpl5
      have hbig2 : T ≤ 2147483647 := by omega
      clear hlow halow hpl5 hblk4 hblk5 hb4 hb5 hz4 hz5 hbig
      go_loopw [7] (fun i wr => ∃ (k : Nat) (hs : Nat → Nat), k ≤ 3 ∧ i = .int .i64 k ∧ Play wr w3.heap.size w3.heap.size (w3.heap.size + 1) k hs (fun _ => []) (fun _ => []) (fun _ => none) (fun _ => 0) ∧ Below w3.heap.size w3 wr) (fun i _ => 3 - (intOf i).toNat)
      case atStart => exact ⟨0, _, by omega, rfl, Hpl5.out, HB5.out⟩
      case round =>
        rename World => w6
        obtain ⟨k, hs, hk, rfl, hP, hB6⟩ := hrel
        have hz6 := hB6.size
        have hlw := hP.l.lt
        by_cases hlt : k < 3
        · have g1 : (k : Int) < 3 := by omega
          have HP := Lib.hid hP
          have HB6 := Lib.hid hB6
          clear hP hB6
          go_wp2_with fail
          refine (new_any w6).mono ?_
          rintro e w7 ⟨rfl, hH7, hb7, hz7⟩
          have hP7 := HP.out.below hb7
          have hc7 : w7.cell? ⟨w3.heap.size, k, none⟩ = some (.pointer none) := by
            rw [hP7.l.at_]
            unfold lRow
            rw [List.getElem?_map, List.getElem?_range hlt]
            exact congrArg some (if_neg (by omega))
          have hf7 := hP7.l.frozen k
          have hl7 := hP7.l.lt
          have hset := hP7.setL (k := k) (g := w6.heap.size) hlt (.inr ⟨rfl, rfl⟩) hH7 hz6 (fun j hj => by have := (HP.out.h j hj).lt; omega)
          rw [upd_const] at hset
          have Hset := Lib.hid hset
          have HB7 := Lib.hid (HB6.out.trans (hb7.mono hz6))
          clear hP7 hset hb7 hz7 hH7
          go_wp2_with fail
          exact ⟨⟨k + 1, _, by omega, by go_num, Hset.out, HB7.out.setCell (Nat.le_refl _) _⟩, by simp [intOf]; omega⟩
        · obtain rfl : k = 3 := by omega
          have HP := Lib.hid hP
          have HB6 := Lib.hid hB6
          clear hP hB6
          go_wp2_with fail
          go_loopw [8] (fun i wr => ∃ (k : Nat) (hs : Nat → Nat) (xs : Nat → List UInt8) (A : Nat → Option Addr) (c : Nat → Nat), k ≤ l.length ∧ i = .int .i64 k ∧ Play wr w3.heap.size w3.heap.size (w3.heap.size + 1) 3 hs xs xs A c ∧ Below w3.heap.size w3 wr ∧ ∀ j, j < 3 → (xs j).length ≤ tot l k) (fun i _ => l.length - (intOf i).toNat)
          case atStart => exact ⟨0, hs, _, _, _, Nat.zero_le _, rfl, HP.out, HB6.out, fun j _ => by simp⟩
          case round =>
            rename World => w8
            obtain ⟨k, hs, xs, A, c, hk, rfl, hP, hB8, hxl⟩ := hrel
            have hz8 := hB8.size
            have hlw := hP.l.lt
            have haw := hP.a.lt
            have HP := Lib.hid hP
            have HB8 := Lib.hid hB8
            have Hxl := Lib.hid hxl
            clear hP hB8 hxl
            by_cases hlt : k < l.length
            · have g1 : (k : Int) < (l.length : Int) := by omega
              have hb08 : Below w.heap.size w w8 := HB02.out.trans (HB8.out.mono (HB02.out.size))
              have hRr := HI.out.1.below hb08
              obtain ⟨b, off, rfl, hb, hc⟩ := hRr.at_ (by rw [stepCells_len]; omega)
              have q0 := hc _ _ (stepCells_get l k 0 hlt (by omega))
              have q1 := hc _ _ (stepCells_get l k 1 hlt (by omega))
              have q2 := hc _ _ (stepCells_get l k 2 hlt (by omega))
              have hgx := (HI.out.2 _ (List.getElem_mem hlt)).below hb08
              have htn := tot_next l k hlt
              have htl := tot_le l (l.length - (k + 1)) (k + 1) (by omega)
              rw [← HT.out] at htl
              have Hb08 := Lib.hid hb08
              obtain ⟨x, hx⟩ : ∃ x : StepI, x = l[k] := ⟨_, rfl⟩
              rw [← hx] at q0 q1 q2 hgx htn
              rw [← Nat.add_assoc] at q1 q2
              replace q0 : w8.cell? ⟨b, off + k * 3, none⟩ = some (.int .i64 x.who) := q0
              replace q1 : w8.cell? ⟨b, off + k * 3 + 1, none⟩ = some (.int .i64 x.kind) := q1
              replace q2 : w8.cell? ⟨b, off + k * 3 + 2, none⟩ = some (.slice x.A x.ys.length x.c) := q2
              have Hgw := Lib.hid (show GoodS w x from hx ▸ HI.out.2 _ (List.getElem_mem hlt))
              clear hc hRr hb08 hx
              have Hgx := Lib.hid hgx
              clear hgx
              go_wp2_with fail
              obtain ⟨w9, hw9⟩ : ∃ w9, w9 = w8.alloc (.cells #[.int .i64 x.who, .int .i64 x.kind, .slice x.A x.ys.length x.c] 39) := ⟨_, rfl⟩
              rw [← hw9]
              have hb9 : Below w8.heap.size w8 w9 := by rw [hw9]; exact (Below.refl _ _).alloc (Nat.le_refl _) _
              have hX9 : Blk w9 w8.heap.size 39 #[.int .i64 x.who, .int .i64 x.kind, .slice x.A x.ys.length x.c] := by rw [hw9]; exact Blk.new _ _ _
              have hz89 : w8.heap.size ≤ w9.heap.size := hb9.size
              have HP9 := Lib.hid (HP.out.below hb9)
              have HB9 := Lib.hid (HB8.out.trans (hb9.mono hz8))
              have Hgx9 := Lib.hid (Hgx.out.below hb9)
              have HX9 := Lib.hid hX9
              have hgx9 := hX9.lt
              have x1 : w9.cell? ⟨w8.heap.size, 1, none⟩ = some (.int .i64 x.kind) := hX9.cell 1
              have x2 : w9.cell? ⟨w8.heap.size, 2, none⟩ = some (.slice x.A x.ys.length x.c) := hX9.cell 2
              have hw1 := Hgx.out.w1
              have hw2 := Hgx.out.w2
              obtain ⟨r, hr⟩ : ∃ r : Nat, (r : Int) = x.who % ((3 : Nat) : Int) := ⟨(x.who % ((3 : Nat) : Int)).toNat, Int.toNat_of_nonneg (Int.emod_nonneg _ (by decide))⟩
              have hr3 : r < 3 := by have := Int.emod_lt_of_pos x.who (b := ((3 : Nat) : Int)) (by decide); omega
              have hrd := round_any x.who 3 r hr (by decide) (by decide) w9
              rw [show ((3 : Nat) : Int) = 3 from rfl] at hrd
              have hg3 : (r : Int) < 3 := by omega
              have hlr9 : w9.cell? ⟨w3.heap.size, r, none⟩ = some (.pointer (some ⟨hs r, 0, none⟩)) := by rw [HP9.out.l.at_]; exact lRow_at 3 hs r hr3 hr3
              have har9 : w9.cell? ⟨w3.heap.size + 1, r, none⟩ = some (.slice (A r) (xs r).length (c r)) := by rw [HP9.out.a.at_]; exact aRow_at xs A c r hr3
              have hlw9 := HP9.out.l.lt
              have haw9 := HP9.out.a.lt
              have hz9 : w3.heap.size ≤ w9.heap.size := by omega
              have hxr : (xs r).length ≤ tot l k := Hxl.out r hr3
              have hxb : x.ys.length ≤ 140737488351232 := Hgx.out.len
              refine hrd.mono ?_
              rintro e w9 ⟨rfl, rfl⟩
              clear hrd hr hb9 hw9 hX9 HP HB8 Hgx q0 q1 q2 hw1 hw2
              have hnext : ∀ j, j < 3 → (xs j).length ≤ tot l (k + 1) := fun j hj => by have := Hxl.out j hj; omega
              have Hnext := Lib.hid hnext
              clear hnext
              by_cases h1 : x.kind = 1
              · rw [h1] at x1
                clear h1
                have hld := lend_any x.ys x.A x.c w9 Hgx9.out.rv (by omega)
                have Hld := Lib.hid hld
                clear hld
                go_wp2_with fail
                refine Hld.out.mono ?_
                rintro e w10 ⟨rfl, hM10, hb10⟩
                have hP10 := HP9.out.below hb10
                have hz10 := hb10.size
                have hl10 : w10.cell? ⟨w3.heap.size, r, none⟩ = some (.pointer (some ⟨hs r, 0, none⟩)) := by rw [hP10.l.at_]; exact lRow_at 3 hs r hr3 hr3
                have hlw10 := hP10.l.lt
                have hmine : RV w10 (some ⟨w9.heap.size, 0, none⟩) (x.ys.map bv) := by
                  have h := (RV.of_blk hM10).cut 0 x.ys.length
                  rw [List.drop_zero, ← List.map_take, show (lent x.ys).take x.ys.length = x.ys from by unfold lent; simp] at h
                  exact h
                have hhl9 := (HP9.out.h r hr3).lt
                have hwt := write_any (hs r) (xs r) x.ys (some ⟨w9.heap.size, 0, none⟩) (x.ys.length + 67) w10 (hP10.h r hr3) hmine (fun _ b o e => by cases e; omega) (by omega) (by omega) (by unfold maxLen; omega)
                have Hwt := Lib.hid hwt
                have HP10 := Lib.hid hP10
                have HM10 := Lib.hid hM10
                have Hb10 := Lib.hid hb10
                clear hwt hP10 hM10 hb10 hmine Hld
                go_wp2_with fail
                refine Hwt.out.mono ?_
                rintro e w11 ⟨rfl, hH11, hO11⟩
                have hz11 := hO11.size
                have hP11 := HP10.out.turn hr3 hO11 hH11
                have hM11 := HM10.out.only hO11 (by omega)
                have hX11 := (HX9.out.below Hb10.out hgx9).only hO11 (Ne.symm ((HP9.out.h r hr3).ne HX9.out (by decide)))
                have hB11 : Below w3.heap.size w3 w11 := (HB9.out.trans (Hb10.out.mono hz9)).trans (hO11.below (by omega) fun q hq e => by have := HP9.out.hB r hr3; omega)
                have hw3 : w.heap.size ≤ w3.heap.size := HB02.out.size
                have hgd11 := Hgw.out.below (HB02.out.trans (hB11.mono hw3))
                have s2 : w11.cell? ⟨w3.heap.size + 1, r, none⟩ = some (.slice (A r) (xs r).length (c r)) := by rw [hP11.a.at_]; exact aRow_at xs A c r hr3
                have f2 := hP11.a.frozen r
                have xx2 : w11.cell? ⟨w8.heap.size, 2, none⟩ = some (.slice x.A x.ys.length x.c) := hX11.cell 2
                have haw11 := hP11.a.lt
                have hgx11 := hX11.lt
                have hrv11 : RV w11 x.A (x.ys.map bv) := hgd11.rv
                have hnil11 := hgd11.nil
                have hown11 := hP11.own r hr3
                have HP11 := Lib.hid hP11
                have HM11 := Lib.hid hM11
                have HB11 := Lib.hid hB11
                have HX11 := Lib.hid hX11
                have Hgd11 := Lib.hid hgd11
                have Hrv11 := Lib.hid hrv11
                have Hown11 := Lib.hid hown11
                clear hH11 hO11 hP11 hM11 hX11 hB11 hgd11 hrv11 hown11 Hwt HP10 HM10 Hb10 hl10
                go_wp2_with fail
                have hS0 : (fun w' : World => w'.cell? ⟨w3.heap.size + 1, r, none⟩ = some (.slice (A r) (xs r).length (c r)) ∧ w'.frozen? ⟨w3.heap.size + 1, r, none⟩ = false ∧ w'.cell? ⟨w8.heap.size, 2, none⟩ = some (.slice x.A x.ys.length x.c)) w11.drew := ⟨s2, f2, xx2⟩
                refine region_heldT 8 (fun w' => w'.cell? ⟨w3.heap.size + 1, r, none⟩ = some (.slice (A r) (xs r).length (c r)) ∧ w'.frozen? ⟨w3.heap.size + 1, r, none⟩ = false ∧ w'.cell? ⟨w8.heap.size, 2, none⟩ = some (.slice x.A x.ys.length x.c)) (by kernel_rfl) (by decide) ?_
                refine HeadW.take 0 (v := .int .i64 (r : Int)) rfl (by kernel_rfl) (by kernel_rfl) (by kernel_rfl) (by decide) (by decide) (fun _ _ _ hL => seqB_ready hL.1) (by kernel_rfl) (by kernel_rfl) (fun _ _ _ h => h) hS0 (.inl ⟨by rfl, by intro w hSw; (try dsimp only at hSw); go_simp⟩) ?_
                simp only [Act.put, List.setIfInBounds_toArray]
                refine HeadW.take 1 (v := .int .i64 (r : Int)) rfl (by kernel_rfl) (by kernel_rfl) (by kernel_rfl) (by decide) (by decide) (fun _ _ _ hL => seqB_ready hL.1) (by kernel_rfl) (by kernel_rfl) (fun _ _ _ h => h) hS0 (.inl ⟨by rfl, by intro w hSw; (try dsimp only at hSw); go_simp⟩) ?_
                simp only [Act.put]
                refine HeadW.take 2 (v := .pointer (some ⟨w3.heap.size + 1, r, none⟩)) rfl (by kernel_rfl) (by kernel_rfl) (by kernel_rfl) (by decide) (by decide) (fun _ _ _ hL => seqB_ready hL.1) (by kernel_rfl) (by kernel_rfl) (fun _ _ _ h => h) hS0 (.inl ⟨by rfl, by intro w hSw; (try dsimp only at hSw); go_simp⟩) ?_
                simp only [Act.put]
                refine HeadW.take 3 (v := .slice (A r) (xs r).length (c r)) rfl (by kernel_rfl) (by kernel_rfl) (by kernel_rfl) (by decide) (by decide) (fun _ _ _ hL => seqB_ready hL.1) (by kernel_rfl) (by kernel_rfl) (fun _ _ _ h => h) hS0 (.inl ⟨by rfl, by intro w hSw; (try dsimp only at hSw); go_simp⟩) ?_
                simp only [Act.put]
                refine HeadW.take 4 (v := .pointer (some ⟨w8.heap.size, 2, none⟩)) rfl (by kernel_rfl) (by kernel_rfl) (by kernel_rfl) (by decide) (by decide) (fun _ _ _ hL => seqB_ready hL.1) (by kernel_rfl) (by kernel_rfl) (fun _ _ _ h => h) hS0 (.inl ⟨by rfl, by intro w hSw; (try dsimp only at hSw); go_simp⟩) ?_
                simp only [Act.put]
                refine HeadW.take 5 (v := .slice x.A x.ys.length x.c) rfl (by kernel_rfl) (by kernel_rfl) (by kernel_rfl) (by decide) (by decide) (fun _ _ _ hL => seqB_ready hL.1) (by kernel_rfl) (by kernel_rfl) (fun _ _ _ h => h) hS0 (.inl ⟨by rfl, by intro w hSw; (try dsimp only at hSw); go_simp⟩) ?_
                simp only [Act.put]
                have happ : ∀ A2 c2 w12, Own w12 w3.heap.size 5 1 A2 ((xs r).length + x.ys.length) c2 ((xs r).map bv ++ x.ys.map bv) → w11.drew.grownBy w12 ((A r).map (·.block)) → (A2.map (·.block) = (A r).map (·.block) ∨ A2.map (·.block) = some w11.drew.heap.size) →
                    Play (w12.setCell ⟨w3.heap.size + 1, r, none⟩ (.slice A2 ((xs r).length + x.ys.length) c2)) w3.heap.size w3.heap.size (w3.heap.size + 1) 3 hs (upd xs r (xs r ++ x.ys)) (upd xs r (xs r ++ x.ys)) (upd A r A2) (upd c r c2) ∧ w12.cell? ⟨w3.heap.size + 1, r, none⟩ = some (.slice (A r) (xs r).length (c r)) ∧ w12.frozen? ⟨w3.heap.size + 1, r, none⟩ = false ∧
                      w12.cell? ⟨w8.heap.size, 2, none⟩ = some (.slice x.A x.ys.length x.c) ∧ w3.heap.size + 1 < w12.heap.size ∧ A2.map (·.block) ≠ some w9.heap.size ∧ Hid (Below w3.heap.size w3 w12) ∧ Hid (Blk w12 w9.heap.size 5 ((lent x.ys).map bv).toArray ∧ Blk w12 w8.heap.size 39 #[.int .i64 x.who, .int .i64 x.kind, .slice x.A x.ys.length x.c]) := by
                  intro A2 c2 w12 ho hg hat
                  have ho2 : OwnB w12 w3.heap.size A2 (xs r ++ x.ys).length c2 (xs r ++ x.ys) := OwnB.app ho rfl rfl
                  obtain ⟨h1, h2, h3⟩ := HP11.out.app (zs := xs r ++ x.ys) hr3 (below_drewN (Below.refl _ _) 1) hg ho2 hat
                  rw [List.length_append] at h1
                  have hne : ∀ q, (A r).map (·.block) = some q → w3.heap.size ≤ q := fun q e => (Own.row Hown11.out q e).1
                  have hX12 := HX11.out.only h3 (own_far Hown11.out HX11.out (by decide))
                  have hAr : (A r).map (·.block) ≠ some w9.heap.size := fun e => by
                    have h4 := (Own.row (HP9.out.own r hr3) w9.heap.size e).2
                    omega
                  have hA2 : A2.map (·.block) ≠ some w9.heap.size := fun e => by
                    rcases hat with h5 | h5
                    · exact hAr (h5 ▸ e)
                    · rw [h5] at e
                      injection e with e
                      have h6 := HM11.out.lt
                      have h7 : w11.drew.heap.size = w11.heap.size := rfl
                      omega
                  refine ⟨h1, by rw [h2.at_]; exact aRow_at xs A c r hr3, h2.frozen r, hX12.cell 2, h2.lt, hA2, Lib.hid (HB11.out.trans (h3.below (by omega) fun q hq e => by have := hne q e; omega)), Lib.hid ⟨HM11.out.only h3 hAr, hX12⟩⟩
                have Happ := Lib.hid happ
                clear happ
                refine HeadW.one 6 rfl (by decide) (by kernel_rfl) fun K hK => ?_
                refine step_app (by rfl) (.tmp 71) (.tmp 73) eByte (by rfl) (base := w3.heap.size) (n := (xs r).length) (c := c r) (A := A r) (vs := (xs r).map bv) (by rfl) (Own.below Hown11.out (below_drewN (Below.refl _ _) 1) (Nat.le_refl _)) (A' := x.A) (m := x.ys.length) (c' := x.c) (us := x.ys.map bv) (by rfl) Hrv11.out.drew (by simp) (map_bv_one _) (by unfold maxLen; omega) (by omega) (by show w3.heap.size ≤ w11.heap.size; omega) hnil11 ?_
                intro A2 c2 w12 hown12 hgrow12 hat12
                obtain ⟨hfin, s12, f12, x12, hl12, hA2, HB12, HM12⟩ := Happ.out A2 c2 w12 hown12 hgrow12 hat12
                clear hown12 hgrow12 hat12
                refine hK.out _ _ ⟨s12, f12, x12⟩ (fun hHeld => ?_)
                clear hK K
                have hS12 : (fun w' : World => w'.cell? ⟨w3.heap.size + 1, r, none⟩ = some (.slice (A r) (xs r).length (c r)) ∧ w'.frozen? ⟨w3.heap.size + 1, r, none⟩ = false ∧ w'.cell? ⟨w8.heap.size, 2, none⟩ = some (.slice x.A x.ys.length x.c)) w12 := ⟨s12, f12, x12⟩
                refine HeadW.one 7 rfl (by decide) (by kernel_rfl) fun K hK => ?_
                go_simp
                refine hK.out _ _ ⟨s12, f12, x12⟩ (fun hHeld => ?_)
                clear hK K hS12
                refine fun _ => ⟨by kernel_rfl, ?_⟩
                clear hS0
                have hz12 := HB12.out.size
                have hgx12 := HM12.out.2.lt
                go_wp2_with fail
                obtain ⟨w13, hw13⟩ : ∃ w13, w13 = w12.setCell ⟨w3.heap.size + 1, r, none⟩ (.slice A2 ((xs r).length + x.ys.length) c2) := ⟨_, rfl⟩
                rw [← hw13] at hfin ⊢
                have ho13 : Only (fun b => b = w3.heap.size + 1) w12 w13 := by rw [hw13]; exact (Only.refl (fun b => b = w3.heap.size + 1) w12).setCell (p := ⟨w3.heap.size + 1, r, none⟩) (.inl rfl) _
                have hB13 : Below w3.heap.size w3 w13 := HB12.out.trans (ho13.below hz12 fun q hq e => by omega)
                have hM13 := HM12.out.1.only ho13 (by omega)
                have hgd13 := Hgw.out.below (HB02.out.trans (hB13.mono hw3))
                have hkt := kept_any x.ys w9.heap.size x.A x.c w13 hM13 hgd13.rv (by omega)
                have HP13 := Lib.hid hfin
                have HB13 := Lib.hid hB13
                have hz13 := hB13.size
                clear hw13 hfin ho13 hB13 hM13 hgd13
                refine hkt.mono ?_
                rintro e w14 ⟨rfl, hO14⟩
                have HP14 := Lib.hid (HP13.out.only hO14 (by omega) (by omega) (fun j hj e => by have := (HP9.out.h j hj).lt; omega) (fun j hj b e e2 => by
                  by_cases hjr : j = r
                  · subst hjr
                    rw [upd_self, e2] at e
                    exact hA2 e
                  · rw [upd_ne _ _ _ hjr] at e
                    have := (Own.row (HP9.out.own j hj) b e).2
                    omega))
                have HB14 := Lib.hid (HB13.out.trans (hO14.below hz13 fun q hq e => by omega))
                clear hkt hO14
                go_wp2_with fail
                refine ⟨⟨k + 1, hs, _, _, _, by omega, by go_num, HP14.out, HB14.out, fun j hj => ?_⟩, by simp [intOf]; omega⟩
                by_cases hjr : j = r
                · subst hjr; rw [upd_self, List.length_append]; omega
                · rw [upd_ne _ _ _ hjr]; exact Hnext.out j hj
              by_cases h2 : x.kind = 2
              · rw [h2] at x1
                clear h1 h2
                have hlx : ∀ y : BW w9.heap.size w9, y.w.cell? ⟨w3.heap.size, r, none⟩ = some (.pointer (some ⟨hs r, 0, none⟩)) := fun y => by rw [y.cell hlw9]; exact hlr9
                have hax : ∀ y : BW w9.heap.size w9, y.w.cell? ⟨w3.heap.size + 1, r, none⟩ = some (.slice (A r) (xs r).length (c r)) := fun y => by rw [y.cell haw9]; exact har9
                have hhx : ∀ y : BW w9.heap.size w9, HashV y.w (hs r) (xs r) := fun y => (HP9.out.h r hr3).below y.h (HP9.out.h r hr3).lt
                have hrx : ∀ y : BW w9.heap.size w9, RV y.w (A r) ((xs r).map bv) := fun y => (RV.of_own (HP9.out.own r hr3)).below y.h
                have hnx := Lib.hid (HP9.out.own r hr3).nilA
                have hb1 : (xs r).length ≤ 1152921504606846976 := by omega
                have hb2 : (xs r).length ≤ 70368744177664 := by omega
                have Hhx := Lib.hid hhx
                have Hrx := Lib.hid hrx
                clear hhx hrx
                go_wp2_with fail
                refine region_inB w9.heap.size w9 (Below.refl _ _) (by kernel_rfl) (by kernel_rfl) ?_
                repeat (first
                  | (go_big_quiet_want; refine quiet_neArr 31 _ _ rfl Try.underlying31 Try.underlying5 size1B guardR (l := sha (xs r)) (m := sha (xs r)) rfl rfl (length_sha _) (length_sha _) ?_; rw [decide_eq_true rfl]; simp only [Act.put, List.setIfInBounds_toArray, List.set_cons_zero, List.set_cons_succ]; go_big_quiet_on)
                  | go_big_quiet_step (first
                    | with_reducible exact Calls.inBat _ (sum_any (hs r) (xs r) _ (Hhx.out _) hb1) (Nat.le_refl _)
                    | with_reducible exact Calls.inBat _ (given_any _ (length_sha _) _) (Nat.le_refl _)
                    | with_reducible exact Calls.inBat _ (refOf_any (xs r) (A r) (c r) _ (Hrx.out _) hb2 hnx.out) (Nat.le_refl _)))
                refine wpQuiet_nil ?_
                intro w10 hb10
                have hP10 := HP9.out.below hb10
                have HP10 := Lib.hid hP10
                have HB10 := Lib.hid (HB9.out.trans (hb10.mono hz9))
                clear hlx hax Hhx Hrx hP10 hb10
                go_wp2_with fail
                exact ⟨⟨k + 1, hs, xs, A, c, by omega, by go_num, HP10.out, HB10.out, Hnext.out⟩, by simp [intOf]; omega⟩
              by_cases h3 : x.kind = 3
              · rw [h3] at x1
                clear h1 h2 h3
                have hlen : ∀ m, Calls Try.prog 24 #[.pointer (some ⟨hs r, 0, none⟩)] (w9.drewN m) fun e w' => e = .returned (.int .i64 ((xs r).length : Int)) ∧ w' = w9.drewN m := fun m => len_any (hs r) (xs r) (w9.drewN m) ((HP9.out.h r hr3).below (below_drewN (Below.refl w9.heap.size _) m) (HP9.out.h r hr3).lt)
                have Hlen := Lib.hid hlen
                clear hlen
                go_wp2_with fail
                refine region_quiet (fun w' => ∃ m, w' = w9.drewN m) (by kernel_rfl) (by kernel_rfl) ⟨1, rfl⟩ ?_
                repeat (go_big_quiet_step (exact Calls.quiet_of_same (Hlen.out _)))
                refine wpQuiet_nil ?_
                rintro _ ⟨m, rfl⟩
                have HP10 := Lib.hid (HP9.out.below (below_drewN (Below.refl _ _) m))
                have HB10 := Lib.hid (below_drewN HB9.out m)
                clear Hlen
                go_wp2_with fail
                exact ⟨⟨k + 1, hs, xs, A, c, by omega, by go_num, HP10.out, HB10.out, Hnext.out⟩, by simp [intOf]; omega⟩
              by_cases h4 : x.kind = 4
              · rw [h4] at x1
                clear h1 h2 h3 h4
                have hrs := reset_any (hs r) (xs r) w9 (HP9.out.h r hr3)
                have hhl := (HP9.out.h r hr3).lt
                go_wp2_with fail
                refine hrs.mono ?_
                rintro e w10 ⟨rfl, hH10, hO10⟩
                have hP10 := HP9.out.turn hr3 hO10 hH10
                have hz10 := hO10.size
                have ha10 : w10.cell? ⟨w3.heap.size + 1, r, none⟩ = some (.slice (A r) (xs r).length (c r)) := by rw [hP10.a.at_]; exact aRow_at xs A c r hr3
                have hf10 := hP10.a.frozen r
                have haw10 := hP10.a.lt
                have hset := hP10.setA (k := r) (zs := []) (A' := none) (c' := 0) hr3 (Own.nil _ _ _ _) (fun j _ _ b _ h => by cases h)
                have HB10 := Lib.hid (HB9.out.trans (hO10.below (by omega) fun q hq e => by have := HP9.out.hB r hr3; omega))
                have Hset := Lib.hid hset
                clear hrs hH10 hO10 hP10 hset
                go_wp2_with fail
                refine ⟨⟨k + 1, hs, upd xs r [], upd A r none, upd c r 0, by omega, by go_num, Hset.out, HB10.out.setCell (by simp) _, fun j hj => ?_⟩, by simp [intOf]; omega⟩
                by_cases hjr : j = r
                · subst hjr; rw [upd_self]; simp
                · rw [upd_ne _ _ _ hjr]; exact Hnext.out j hj
              by_cases h5 : x.kind = 5
              · rw [h5] at x1
                clear h1 h2 h3 h4 h5
                go_wp2_with fail
                refine (new_any w9).mono ?_
                rintro e w10 ⟨rfl, hH10, hb10, hz10⟩
                have hP10 := HP9.out.below hb10
                have hl10 : w10.cell? ⟨w3.heap.size, r, none⟩ = some (.pointer (some ⟨hs r, 0, none⟩)) := by rw [hP10.l.at_]; exact lRow_at 3 hs r hr3 hr3
                have hfl10 := hP10.l.frozen r
                have hlw10 := hP10.l.lt
                have ha10 : w10.cell? ⟨w3.heap.size + 1, r, none⟩ = some (.slice (A r) (xs r).length (c r)) := by rw [hP10.a.at_]; exact aRow_at xs A c r hr3
                have hf10 := hP10.a.frozen r
                have haw10 := hP10.a.lt
                have hset := hP10.setL (k := r) (g := w9.heap.size) hr3 (.inl ⟨hr3, rfl⟩) hH10 hz9 (fun j hj => by have := (HP9.out.h j hj).lt; omega)
                have hset2 := hset.setA (k := r) (zs := []) (A' := none) (c' := 0) hr3 (Own.nil _ _ _ _) (fun j _ _ b _ h => by cases h)
                have Hset2 := Lib.hid hset2
                have HB10 := Lib.hid ((HB9.out.trans (hb10.mono hz9)).setCell (p := ⟨w3.heap.size, r, none⟩) (Nat.le_refl _) (.pointer (some ⟨w9.heap.size, 0, none⟩)))
                clear hP10 hset hset2 hb10 hz10 hH10
                go_wp2_with fail
                refine ⟨⟨k + 1, upd hs r w9.heap.size, upd xs r [], upd A r none, upd c r 0, by omega, by go_num, Hset2.out, HB10.out.setCell (by simp) _, fun j hj => ?_⟩, by simp [intOf]; omega⟩
                by_cases hjr : j = r
                · subst hjr; rw [upd_self]; simp
                · rw [upd_ne _ _ _ hjr]; exact Hnext.out j hj
              by_cases h6 : x.kind = 6
              · rw [h6] at x1
                clear h1 h2 h3 h4 h5 h6
                go_wp2_with (refine wpList_at 12 rfl ?_; refine wp_stop ?_)
                refine ⟨?_⟩
                refine wpList_allocZ rfl 51 rfl (hashL (List.replicate 8 0) false (List.replicate 64 0) 0) (fun ev w => by kernel_rfl) ?_
                intro w10 hblk10 hb10 hz10
                have hH10 : HashV w10 w9.heap.size [] := ⟨_, _, _, _, hblk10, HashOf.zero⟩
                clear hblk10
                have hP10 := HP9.out.below hb10
                have hl10 : w10.cell? ⟨w3.heap.size, r, none⟩ = some (.pointer (some ⟨hs r, 0, none⟩)) := by rw [hP10.l.at_]; exact lRow_at 3 hs r hr3 hr3
                have hfl10 := hP10.l.frozen r
                have hlw10 := hP10.l.lt
                have ha10 : w10.cell? ⟨w3.heap.size + 1, r, none⟩ = some (.slice (A r) (xs r).length (c r)) := by rw [hP10.a.at_]; exact aRow_at xs A c r hr3
                have hf10 := hP10.a.frozen r
                have haw10 := hP10.a.lt
                have hset := hP10.setL (k := r) (g := w9.heap.size) hr3 (.inl ⟨hr3, rfl⟩) hH10 hz9 (fun j hj => by have := (HP9.out.h j hj).lt; omega)
                have hset2 := hset.setA (k := r) (zs := []) (A' := none) (c' := 0) hr3 (Own.nil _ _ _ _) (fun j _ _ b _ h => by cases h)
                have Hset2 := Lib.hid hset2
                have HB10 := Lib.hid ((HB9.out.trans (hb10.mono hz9)).setCell (p := ⟨w3.heap.size, r, none⟩) (Nat.le_refl _) (.pointer (some ⟨w9.heap.size, 0, none⟩)))
                clear hP10 hset hset2 hb10 hz10 hH10
                go_wp2_with fail
                refine ⟨⟨k + 1, upd hs r w9.heap.size, upd xs r [], upd A r none, upd c r 0, by omega, by go_num, Hset2.out, HB10.out.setCell (by simp) _, fun j hj => ?_⟩, by simp [intOf]; omega⟩
                by_cases hjr : j = r
                · subst hjr; rw [upd_self]; simp
                · rw [upd_ne _ _ _ hjr]; exact Hnext.out j hj
              by_cases h7 : x.kind = 7
              · rw [h7] at x1
                clear h1 h2 h3 h4 h5 h6 h7
                obtain ⟨d, hd⟩ : ∃ d, d = sha x.ys := ⟨_, rfl⟩
                have hdl : d.length = 32 := by rw [hd]; exact length_sha _
                have hgv : ∀ cur, Calls Try.prog 17 #[.agg (d.map bv).toArray] cur fun e w' => e = .returned (.agg (d.map bv).toArray) ∧ Below cur.heap.size cur w' := fun cur => given_any d hdl cur
                have hb1 : x.ys.length ≤ 1152921504606846976 := by omega
                have hrf : ∀ cur, Below w9.heap.size w9 cur → Calls Try.prog 18 #[.slice x.A x.ys.length x.c] cur fun e w' => e = .returned (.agg (d.map bv).toArray) ∧ Below cur.heap.size cur w' := fun cur hb => by
                  rw [hd]
                  exact refOf_any x.ys x.A x.c cur (Hgx9.out.rv.below hb) (by omega) Hgx9.out.nil
                have hof : ∀ cur, Below w9.heap.size w9 cur → ∀ W : World, W.heap = (cur.alloc (.cells #[.slice x.A x.ys.length x.c] 25)).heap → Calls Try.prog 15 #[.slice (some ⟨cur.heap.size, 0, none⟩) 1 1] W fun e w' => e = .returned (.agg (d.map bv).toArray) ∧ Below W.heap.size W w' := fun cur hb W hW =>
                  of_laid2 x.ys d hd x.A x.ys.length x.c 1 _ cur W 25 rfl hW rfl (Hgx9.out.rv.below hb) Hgx9.out.cap Hgx9.out.max hb1
                have hof3 : ∀ W w13 : World, W.heap = (w9.alloc (.cells #[.slice x.A x.ys.length x.c] 25)).heap → Below W.heap.size W w13 → Below w9.heap.size w9 w13 → Calls Try.prog 15 #[.slice (some ⟨w9.heap.size, 0, none⟩) 1 1] w13 fun e w' => e = .returned (.agg (d.map bv).toArray) ∧ Below w13.heap.size w13 w' := fun W w13 hW hb hbb => by
                  have hB : Blk W w9.heap.size 25 #[.slice x.A x.ys.length x.c] := by unfold Blk; rw [hW]; exact Blk.new w9 _ _
                  have hB13 := hB.below hb hB.lt
                  rw [hd]
                  exact of_one x.ys x.A x.c w9.heap.size 1 w13 (by rw [hB13.cell]; rfl) hB13.lt (Hgx9.out.rv.below hbb) Hgx9.out.cap Hgx9.out.max hb1
                have hkp : ∀ cur, Below w9.heap.size w9 cur → cur.cell? ⟨w8.heap.size, 2, none⟩ = some (.slice x.A x.ys.length x.c) := fun cur hb => by rw [(bcell hb).1 _ _ hgx9]; exact x2
                have heq2 : ∀ w, (Op.equalIn 10000 31 (.agg (d.map bv).toArray) (.agg (d.map bv).toArray)).run Try.prog w = .ok true w := fun w => by
                  have h := run_eqArr (P := Try.prog) (w := w) Try.underlying31 Try.underlying5 size1B hdl hdl
                  rw [decide_eq_true (rfl : d = d)] at h
                  exact h
                have Hgv := Lib.hid hgv
                have Hrf := Lib.hid hrf
                have Hof := Lib.hid (hof w9 (Below.refl _ _) (w9.alloc (.cells #[.slice x.A x.ys.length x.c] 25)).drew rfl)
                have Hof2 := Lib.hid (show ∀ cur, Below w9.heap.size w9 cur → Calls Try.prog 15 #[.slice (some ⟨cur.heap.size, 0, none⟩) 1 1] (cur.alloc (.cells #[.slice x.A x.ys.length x.c] 25)) fun e w' => e = .returned (.agg (d.map bv).toArray) ∧ Below (cur.alloc (.cells #[.slice x.A x.ys.length x.c] 25)).heap.size (cur.alloc (.cells #[.slice x.A x.ys.length x.c] 25)) w' from fun cur hb => hof cur hb _ rfl)
                have Hof3 := Lib.hid (hof3 (w9.alloc (.cells #[.slice x.A x.ys.length x.c] 25)).drew · rfl)
                have Hkp := Lib.hid hkp
                have Hle9 := Lib.hid (Nat.le_refl w9.heap.size)
                clear hgv hrf hof hof3 hkp hd hdl
                go_wp2_with fail
                go_region_held3 (fun w' => w'.cell? ⟨w8.heap.size, 2, none⟩ = some (.slice x.A x.ys.length x.c))
                  (first | go_keep | exact Hkp.out _ (by first | assumption | exact below_drewN (Below.refl _ _) 1 | exact below_drewN ((Below.refl _ _).alloc (Nat.le_refl _) _) 1) | exact Hkp.out _ (Below.alloc (by assumption) (by omega) _))
                  (first
                    | (go_at_call 15; (with_reducible refine Hof.out.mono ?_); rintro e w14 ⟨rfl, hb14⟩; have hbb14 : Below w9.heap.size w9 w14 := below_step (by first | assumption | exact below_drewN (Below.refl _ _) 1 | exact below_drewN ((Below.refl _ _).alloc (Nat.le_refl _) _) 1) (Nat.le_refl _) hb14; have hz14 := hbb14.size)
                    | (go_at_call 15; (with_reducible refine (Hof2.out w13 hbb13).mono ?_); rintro e w14 ⟨rfl, hb14⟩; have hbb14 : Below w9.heap.size w9 w14 := below_step (hbb13.alloc hz13 _) (Nat.le_refl _) hb14; have hz14 := hbb14.size)
                    | (go_at_call 15; (with_reducible refine (Hof3.out w13 hb13 hbb13).mono ?_); rintro e w14 ⟨rfl, hb14⟩; have hbb14 : Below w9.heap.size w9 w14 := below_step hbb13 (Nat.le_refl _) hb14; have hz14 := hbb14.size)
                    | (go_at_call 17; (with_reducible refine (Hgv.out _).mono ?_); rintro e w15 ⟨rfl, hb15⟩; have hbb15 : Below w9.heap.size w9 w15 := below_step (by first | assumption | exact below_drewN (Below.refl _ _) 1 | exact below_drewN ((Below.refl _ _).alloc (Nat.le_refl _) _) 1) (Nat.le_refl _) hb15; have hz15 := hbb15.size)
                    | (go_at_call 18; (with_reducible refine (Hrf.out _ (by first | assumption | exact below_drewN (Below.refl _ _) 1 | exact below_drewN ((Below.refl _ _).alloc (Nat.le_refl _) _) 1)).mono ?_); rintro e w13 ⟨rfl, hb13⟩; have hbb13 : Below w9.heap.size w9 w13 := below_step (by first | assumption | exact below_drewN (Below.refl _ _) 1 | exact below_drewN ((Below.refl _ _).alloc (Nat.le_refl _) _) 1) (Nat.le_refl _) hb13; have hz13 := hbb13.size))
                all_goals
                  clear heq2 Hgv Hrf Hof Hof2 Hof3 Hkp Hle9
                  go_wp2_with fail
                  first
                    | exact ⟨⟨k + 1, hs, xs, A, c, by omega, by go_num, HP9.out.below hbb13, HB9.out.trans (hbb13.mono hz9), Hnext.out⟩, by simp [intOf]; omega⟩
                    | exact ⟨⟨k + 1, hs, xs, A, c, by omega, by go_num, HP9.out.below hbb15, HB9.out.trans (hbb15.mono hz9), Hnext.out⟩, by simp [intOf]; omega⟩
              · clear Hgx9 HX9
                go_wp2_with fail
                exact ⟨⟨k + 1, hs, xs, A, c, by omega, by go_num, HP9.out, HB9.out, Hnext.out⟩, by simp [intOf]; omega⟩
            · obtain rfl : k = l.length := by omega
              go_wp2_with fail
              go_loopw [13] (fun i wr => ∃ k : Nat, k ≤ 3 ∧ i = .int .i64 k ∧ Play wr w3.heap.size w3.heap.size (w3.heap.size + 1) 3 hs xs xs A c ∧ Below w3.heap.size w3 wr) (fun i _ => 3 - (intOf i).toNat)
              case atStart => exact ⟨0, by omega, rfl, HP.out, HB8.out⟩
              case round =>
                rename World => w9
                obtain ⟨r, hr, rfl, hP, hB9⟩ := hrel
                have hz9 := hB9.size
                have HP9 := Lib.hid hP
                have HB9 := Lib.hid hB9
                clear hP hB9 HP HB8
                by_cases hr3 : r < 3
                · have g1 : (r : Int) < 3 := by omega
                  have hlr9 : w9.cell? ⟨w3.heap.size, r, none⟩ = some (.pointer (some ⟨hs r, 0, none⟩)) := by rw [HP9.out.l.at_]; exact lRow_at 3 hs r hr3 hr3
                  have har9 : w9.cell? ⟨w3.heap.size + 1, r, none⟩ = some (.slice (A r) (xs r).length (c r)) := by rw [HP9.out.a.at_]; exact aRow_at xs A c r hr3
                  have hlw9 := HP9.out.l.lt
                  have haw9 := HP9.out.a.lt
                  have hxr : (xs r).length ≤ tot l l.length := Hxl.out r hr3
                  have htl := tot_le l 0 l.length (by omega)
                  rw [← HT.out] at htl
                  have hlx : ∀ y : BW w9.heap.size w9, y.w.cell? ⟨w3.heap.size, r, none⟩ = some (.pointer (some ⟨hs r, 0, none⟩)) := fun y => by rw [y.cell hlw9]; exact hlr9
                  have hax : ∀ y : BW w9.heap.size w9, y.w.cell? ⟨w3.heap.size + 1, r, none⟩ = some (.slice (A r) (xs r).length (c r)) := fun y => by rw [y.cell haw9]; exact har9
                  have hhx : ∀ y : BW w9.heap.size w9, HashV y.w (hs r) (xs r) := fun y => (HP9.out.h r hr3).below y.h (HP9.out.h r hr3).lt
                  have hrx : ∀ y : BW w9.heap.size w9, RV y.w (A r) ((xs r).map bv) := fun y => (RV.of_own (HP9.out.own r hr3)).below y.h
                  have hnx := Lib.hid (HP9.out.own r hr3).nilA
                  have hb1 : (xs r).length ≤ 1152921504606846976 := by omega
                  have hb2 : (xs r).length ≤ 70368744177664 := by omega
                  have Hhx := Lib.hid hhx
                  have Hrx := Lib.hid hrx
                  clear hhx hrx
                  go_wp2_with fail
                  refine region_inB w9.heap.size w9 (Below.refl _ _) (by kernel_rfl) (by kernel_rfl) ?_
                  repeat (first
                    | (go_big_quiet_want; refine quiet_neArr 31 _ _ rfl Try.underlying31 Try.underlying5 size1B guardR (l := sha (xs r)) (m := sha (xs r)) rfl rfl (length_sha _) (length_sha _) ?_; rw [decide_eq_true rfl]; simp only [Act.put, List.setIfInBounds_toArray, List.set_cons_zero, List.set_cons_succ]; go_big_quiet_on)
                    | go_big_quiet_step (first
                      | with_reducible exact Calls.inBsame _ (len_any (hs r) (xs r) _ (Hhx.out _))
                      | with_reducible exact Calls.inBat _ (sum_any (hs r) (xs r) _ (Hhx.out _) hb1) (Nat.le_refl _)
                      | with_reducible exact Calls.inBat _ (given_any _ (length_sha _) _) (Nat.le_refl _)
                      | with_reducible exact Calls.inBat _ (refOf_any (xs r) (A r) (c r) _ (Hrx.out _) hb2 hnx.out) (Nat.le_refl _)))
                  refine wpQuiet_nil ?_
                  intro w10 hb10
                  have HP10 := Lib.hid (HP9.out.below hb10)
                  have HB10 := Lib.hid (HB9.out.trans (hb10.mono hz9))
                  clear hlx hax Hhx Hrx hb10
                  go_wp2_with fail
                  exact ⟨⟨r + 1, by omega, by go_num, HP10.out, HB10.out⟩, by simp [intOf]; omega⟩
                · obtain rfl : r = 3 := by omega
                  go_wp2_with fail
                  go_ret
                  exact ⟨rfl, HB02.out.trans (HB9.out.mono HB02.out.size)⟩
end Go.Proofs.Ytmlkfkpffbbfaaa
