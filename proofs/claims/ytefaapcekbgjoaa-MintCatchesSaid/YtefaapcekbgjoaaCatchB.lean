/- The walks of caught and of MintCatches' second closure. -/
import Derived.Test.YtefaapcekbgjoaaCatchA
namespace Go.Proofs.Ytefaapcekbgjoaa
open Go.RowKit

theorem boxes3 (w : World) (t1 t2 t3 : TypeId) (a b c : Value) : Blk (((w.alloc (.cells #[a] t1)).alloc (.cells #[b] t2)).alloc (.cells #[c] t3)) w.heap.size t1 #[a] ∧ Blk (((w.alloc (.cells #[a] t1)).alloc (.cells #[b] t2)).alloc (.cells #[c] t3)) (w.heap.size + 1) t2 #[b] ∧
    Blk (((w.alloc (.cells #[a] t1)).alloc (.cells #[b] t2)).alloc (.cells #[c] t3)) (w.heap.size + 2) t3 #[c] := by
  refine ⟨((Blk.new w t1 #[a]).alloc _).alloc _, ?_, ?_⟩
  · have h := (Blk.new (w.alloc (.cells #[a] t1)) t2 #[b]).alloc (.cells #[c] t3)
    rw [World.size_alloc] at h
    exact h
  · have h := Blk.new ((w.alloc (.cells #[a] t1)).alloc (.cells #[b] t2)) t3 #[c]
    rw [World.size_alloc, World.size_alloc] at h
    exact h
set_option maxRecDepth 100000 in
set_option maxHeartbeats 1000000 in
theorem caught_any (g c n : Nat) (A : Option Addr) (bs : List UInt8) (f : Int) (w : World) (h : Rd w g A c bs 0 false 0) (hl : bs.length ≤ 140737488351232) (hf : f ≠ 0) (hn : n ≤ 1000) :
    Calls Try.prog 45 #[.pointer (some ⟨g, 0, none⟩), .int .i64 (n : Int), .int .i64 f] w fun e w' => e = .returned (.bool true) ∧ (∃ at_, Rd w' g A c bs at_ true (faultF bs n f)) ∧ Only (fun b => b = g) w w' := by
  have hmf : ∀ (fn : Fn) (first cap : Array Value) (w : World), (Instr.makeFunc fn first cap).run Try.prog w = .ok (.func fn first cap) w := fun _ _ _ _ => rfl
  have hgl := h.blk.lt
  have H := Lib.hid h
  clear h
  go_enter Try.func45, Try.ntmps45
  go_wp2_with fail
  obtain ⟨w1, hw1⟩ : ∃ w1, w1 = ((w.alloc (.cells #[.pointer (some ⟨g, 0, none⟩)] 49)).alloc (.cells #[.int .i64 (n : Int)] 3)).alloc (.cells #[.int .i64 f] 37) := ⟨_, rfl⟩
  rw [← hw1]
  have hb1 : Below w.heap.size w w1 := by rw [hw1]; exact (((Below.refl _ _).alloc (Nat.le_refl _) _).alloc (by simp) _).alloc (by simp; omega) _
  have hz1 : w1.heap.size = w.heap.size + 3 := by rw [hw1]; simp
  have hbx : Blk w1 w.heap.size 49 #[.pointer (some ⟨g, 0, none⟩)] ∧ Blk w1 (w.heap.size + 1) 3 #[.int .i64 (n : Int)] ∧ Blk w1 (w.heap.size + 2) 37 #[.int .i64 f] := by rw [hw1]; exact boxes3 w _ _ _ _ _ _
  have hq1 : w1.cell? ⟨w.heap.size, 0, none⟩ = some (.pointer (some ⟨g, 0, none⟩)) := hbx.1.cell 0
  have hr1 : w1.cell? ⟨w.heap.size + 1, 0, none⟩ = some (.int .i64 (n : Int)) := hbx.2.1.cell 0
  have hf1 : w1.cell? ⟨w.heap.size + 2, 0, none⟩ = some (.int .i64 f) := hbx.2.2.cell 0
  have hc := caught1_any g c n w.heap.size (w.heap.size + 1) (w.heap.size + 2) A bs f w1 (H.out.below hb1) hl hf hn hr1 hf1 hq1 (by omega) (by omega) (by omega)
  have Hb1 := Lib.hid hb1
  clear hw1 hb1 hr1 hf1 hbx
  refine hc.mono ?_
  rintro e w2 ⟨rfl, ⟨at_, hrd2⟩, hO2⟩
  have hq2 : w2.cell? ⟨w.heap.size, 0, none⟩ = some (.pointer (some ⟨g, 0, none⟩)) := by rw [(ocell hO2).1 _ _ (by omega) (by omega)]; exact hq1
  have hz2 := hO2.size
  have hql := block_lt_of_cell hq2
  have HO2 := Lib.hid ((Only.of_fresh (S := fun b => b = g) Hb1.out).trans hO2)
  have Hrd2 := Lib.hid hrd2
  have Hnum := Lib.hid (num_over hrd2)
  have Hint := Lib.hid (int_over hrd2)
  have Hbool := Lib.hid (bool_over hrd2)
  have Hbytes := Lib.hid (bytes_over hrd2)
  have Htext := Lib.hid (text_over hrd2)
  have Hraw := Lib.hid (raw_over 1 hrd2)
  have Hmost := Lib.hid (most_over 9 hrd2)
  have Hleft := Lib.hid (left_over hrd2)
  have Hfail := Lib.hid (fail_over g c at_ A bs 1 _ w2 hrd2)
  clear hc hO2 hrd2 hq1
  go_wp2_with fail
  refine Hnum.out.mono ?_
  rintro e w2 ⟨rfl, rfl⟩
  go_wp2_with fail
  refine Hint.out.mono ?_
  rintro e w2 ⟨rfl, rfl⟩
  go_wp2_with fail
  refine Hbool.out.mono ?_
  rintro e w2 ⟨rfl, rfl⟩
  go_wp2_with fail
  refine Hbytes.out.mono ?_
  rintro e w2 ⟨rfl, rfl⟩
  go_wp2_with fail
  refine Htext.out.mono ?_
  rintro e w2 ⟨rfl, rfl⟩
  go_wp2_with fail
  refine Hraw.out.mono ?_
  rintro e w2 ⟨rfl, rfl⟩
  go_wp2_with fail
  refine Hmost.out.mono ?_
  rintro e w2 ⟨rfl, rfl⟩
  go_wp2_with fail
  refine Hleft.out.mono ?_
  rintro e w2 ⟨rfl, rfl⟩
  go_wp2_with fail
  refine Hfail.out.mono ?_
  rintro e w2 ⟨rfl, rfl⟩
  go_wp2_with fail
  refine Hnum.out.mono ?_
  rintro e w2 ⟨rfl, rfl⟩
  go_wp2_with fail
  go_ret
  exact ⟨rfl, ⟨_, Hrd2.out⟩, HO2.out⟩
set_option maxRecDepth 100000 in
theorem catch21_any (g c at_ pq po : Nat) (A : Option Addr) (bs : List UInt8) (f : Int) (w : World) (h : Rd w g A c bs at_ true f) (hq : w.cell? ⟨pq, 0, none⟩ = some (.pointer (some ⟨g, 0, none⟩))) (u : FrameMode) {v : Value} (ho : w.cell? ⟨po, 0, none⟩ = some v) (hof : w.frozen? ⟨po, 0, none⟩ = false) :
    CallsD Try.prog 43 #[.pointer (some ⟨pq, 0, none⟩), .pointer (some ⟨po, 0, none⟩)] u w fun e u' w' => u' = u ∧ e = .returned (.tuple #[]) ∧ w' = w.setCell ⟨po, 0, none⟩ (.bool true) := by
  have hql : pq < w.heap.size := block_lt_of_cell hq
  have hol : po < w.heap.size := block_lt_of_cell ho
  have Hnum := Lib.hid (num_over h)
  have Htext := Lib.hid (text_over h)
  have Hleft := Lib.hid (left_over h)
  clear h
  refine callsD_of_wp Try.func43 rfl ?_
  simp only [Try.ntmps43]
  simp [Array.replicate]
  go_wp2_with fail
  refine Hnum.out.mono ?_
  rintro e w ⟨rfl, rfl⟩
  go_wp2_with fail
  refine Hleft.out.mono ?_
  rintro e w ⟨rfl, rfl⟩
  go_wp2_with fail
  refine Htext.out.mono ?_
  rintro e w ⟨rfl, rfl⟩
  go_wp2_with fail
  go_end0
  exact ⟨rfl, rfl⟩
set_option maxRecDepth 100000 in
set_option maxHeartbeats 1000000 in
theorem catch31_any (g c n po pr pf : Nat) (A : Option Addr) (bs : List UInt8) (f : Int) (w : World) (h : Rd w g A c bs 0 false 0) (hl : bs.length ≤ 140737488351232) (hf : f ≠ 0) (hn : n ≤ 1000)
    (ho : w.cell? ⟨po, 0, none⟩ = some (.bool true)) (hof : w.frozen? ⟨po, 0, none⟩ = false) (hr : w.cell? ⟨pr, 0, none⟩ = some (.int .i64 (n : Int))) (hpf : w.cell? ⟨pf, 0, none⟩ = some (.int .i64 f)) (hgo : po ≠ g) (hA : ∀ b o, A = some ⟨b, o, none⟩ → b ≠ po) :
    Calls Try.prog 47 #[.pointer (some ⟨g, 0, none⟩), .pointer (some ⟨po, 0, none⟩), .pointer (some ⟨pr, 0, none⟩), .pointer (some ⟨pf, 0, none⟩)] w fun e w' => e = .returned (.tuple #[]) ∧ (∃ at_, Rd w' g A c bs at_ true (faultF bs n f)) ∧ w'.cell? ⟨po, 0, none⟩ = some (.bool true) ∧ Only (fun b => b = g ∨ b = po) w w' := by
  have hol : po < w.heap.size := block_lt_of_cell ho
  have hrl : pr < w.heap.size := block_lt_of_cell hr
  have hfl : pf < w.heap.size := block_lt_of_cell hpf
  have hc := caught_any g c n A bs f w h hl hf hn
  have Hc := Lib.hid hc
  clear h hc
  go_enter Try.func47, Try.ntmps47
  go_wp2_with fail
  refine Hc.out.mono ?_
  rintro e w2 ⟨rfl, ⟨at_, hrd2⟩, hO2⟩
  have ho2 : w2.cell? ⟨po, 0, none⟩ = some (.bool true) := by rw [(ocell hO2).1 _ _ hol hgo]; exact ho
  have hof2 : w2.frozen? ⟨po, 0, none⟩ = false := by rw [(ocell hO2).2 _ _ hol hgo]; exact hof
  have hol2 := block_lt_of_cell ho2
  have Hrd2 := Lib.hid hrd2
  have HO2 := Lib.hid hO2
  clear hrd2 hO2 Hc
  go_wp2_with fail
  go_end0
  refine ⟨rfl, ⟨at_, Hrd2.out.only ((Only.refl (fun b => b = po) w2).setCell (p := ⟨po, 0, none⟩) (.inl rfl) _) (fun e => hgo e.symm) fun b o e => hA b o e⟩, World.cell?_setCell_same _ _ _ ho2, ?_⟩
  exact (HO2.out.mono fun _ _ e => .inl e).trans ((Only.refl (fun b => b = g ∨ b = po) w2).setCell (p := ⟨po, 0, none⟩) (.inl (.inr rfl)) _)
end Go.Proofs.Ytefaapcekbgjoaa
