/- The walk of the law's written. -/
import Derived.Test.YtefaapcekbgjoaaRun
namespace Go.Proofs.Ytefaapcekbgjoaa
open Go.RowKit

theorem putItem_room (xs : List UInt8) (x : Item) (h : Okay x) (hr : xs.length + (itemL x).length ≤ 4194304) : putItem xs 0 x = (xs ++ itemL x, 0) := by
  rw [putItem_ok xs x h.k1 h.k6 (fun hh => by have := h.num hh.1; omega)]
  unfold putL
  rw [if_pos rfl, if_pos hr]
theorem Okay.toOk {x : Item} (h : Okay x) : x.ok := ⟨by have := h.k1; omega, by have := h.k6; omega, h.n1, h.n2, h.len⟩
set_option maxRecDepth 100000 in
set_option maxHeartbeats 1000000 in
theorem written_any (A0 : Option Addr) (c0 : Nat) (all : List Item) (w : World) (hR : RV w A0 (all.flatMap itemCells)) (hsl : ∀ x ∈ all, Sl w x.p) (hok : ∀ x ∈ all, Okay x) (htot : (formsL all).length ≤ 4194304) (hn : all.length ≤ 400) :
    Calls Try.prog 49 #[.slice A0 all.length c0] w fun e w' => ∃ A2 c2, e = .returned (.tuple #[.slice A2 (formsL all).length c2, .bool true]) ∧ OwnB w' w.heap.size A2 (formsL all).length c2 (formsL all) ∧ Below w.heap.size w w' := by
  have HR := Lib.hid hR
  have Hsl := Lib.hid hsl
  have Hok := Lib.hid hok
  have Htot := Lib.hid htot
  clear hR hsl hok htot
  go_enter Try.func49, Try.ntmps49
  go_wp2_with fail
  refine (new_any _).mono ?_
  rintro e w1 ⟨rfl, rfl⟩
  go_wp2_with fail
  go_loopw [5] (fun i wr => ∃ (k : Nat) (A : Option Addr) (c : Nat), k ≤ all.length ∧ i = .int .i64 k ∧ Wr wr w.heap.size w.heap.size A c (formsL (all.take k)) 0 ∧ Below w.heap.size w wr) (fun i _ => all.length - (intOf i).toNat)
  case atStart => exact ⟨0, none, 0, Nat.zero_le _, rfl, new_wr w, (Below.refl _ _).alloc (Nat.le_refl _) _⟩
  case round =>
    obtain ⟨k, A, c, hk, rfl, hW, hB⟩ := hrel
    have hsz := hB.size
    by_cases hlt : k < all.length
    · have g1 : (k : Int) < (all.length : Int) := by omega
      have hmem := List.getElem_mem hlt
      have hRr := HR.out.below hB
      have hcells := fun j (hj : j < 3) => flatMap_get itemCells 3 (fun _ => rfl) all k j all[k] (List.getElem?_eq_getElem hlt) hj
      have hll : (all.flatMap itemCells).length = all.length * 3 := length_flatMap_const _ 3 (fun _ => rfl) _
      obtain ⟨b, off, rfl, hb, hc⟩ := hRr.at_ (by rw [hll]; omega)
      have q0 : wr.cell? ⟨b, off + k * 3, none⟩ = some (.int .i64 all[k].kind) := hc _ _ (hcells 0 (by omega))
      have q1 : wr.cell? ⟨b, off + k * 3 + 1, none⟩ = some (.int .i64 all[k].n) := by have := hc _ _ (hcells 1 (by omega)); rwa [← Nat.add_assoc] at this
      have q2 : wr.cell? ⟨b, off + k * 3 + 2, none⟩ = some (.slice all[k].p.A all[k].p.ys.length all[k].p.c) := by have := hc _ _ (hcells 2 (by omega)); rwa [← Nat.add_assoc] at this
      have hle : (formsL (all.take k)).length + (itemL all[k]).length ≤ (formsL all).length := by rw [forms_split all k hlt, List.length_append, List.length_append]; omega
      have hroom := putItem_room (formsL (all.take k)) all[k] (Hok.out _ hmem) (by have := Htot.out; omega)
      have hput := put_any w.heap.size w.heap.size A c (formsL (all.take k)) 0 all[k] wr hW (by have := Htot.out; omega) hsz ((Hsl.out _ hmem).below hB) (Hok.out _ hmem).toOk
        ((Hsl.out _ hmem).sep hW (Nat.le_refl _) (Nat.le_refl _))
      rw [hroom] at hput
      have hnx : formsL (all.take (k + 1)) = formsL (all.take k) ++ itemL all[k] := by
        unfold formsL
        rw [List.take_succ_eq_append_getElem hlt, List.flatMap_append]
        simp
      dsimp only at hput
      rw [← hnx] at hput
      have Hput := Lib.hid hput
      have HW := Lib.hid hW
      have HB := Lib.hid hB
      have hgl := hW.blk.lt
      generalize all[k] = x at *
      clear hput hW hB hRr hcells hc hroom hnx hle
      go_wp2_with fail
      refine Hput.out.mono ?_
      rintro e w3 ⟨rfl, A3, c3, hW3, hA3, hO3⟩
      have hB3 : Below w.heap.size w w3 := HB.out.trans (hO3.below hsz fun q hq e => by
        rcases e with e | e
        · omega
        · have := (HW.out.lenA q e).1; omega)
      have HW3 := Lib.hid hW3
      have HB3 := Lib.hid hB3
      clear hW3 hA3 hO3 hB3
      go_wp2_with fail
      exact ⟨⟨k + 1, A3, c3, by omega, by go_num, HW3.out, HB3.out⟩, by simp [intOf]; omega⟩
    · obtain rfl : k = all.length := by omega
      rw [List.take_length] at hW
      have hd := done_any w.heap.size w.heap.size A c (formsL all) 0 wr hW Htot.out
      have HB := Lib.hid hB
      have hgl := hW.blk.lt
      clear hW hB
      go_wp2_with fail
      refine hd.mono ?_
      rintro e w3 ⟨A3, c3, rfl, hown3, hb3⟩
      have e0 : doneL (formsL all) 0 = formsL all := by unfold doneL; rw [if_pos rfl]
      rw [e0] at hown3 ⊢
      have HB3 := Lib.hid (HB.out.trans (hb3.mono hsz))
      have Hown3 := Lib.hid (hown3.mono (base' := w.heap.size) hsz)
      clear hd hown3 hb3 e0
      go_wp2_with fail
      go_ret2
      exact ⟨A3, c3, rfl, Hown3.out, HB3.out⟩
end Go.Proofs.Ytefaapcekbgjoaa
