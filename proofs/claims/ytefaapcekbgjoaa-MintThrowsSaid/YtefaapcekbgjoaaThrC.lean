/- The walk of throws. -/
import Derived.Test.YtefaapcekbgjoaaThrB
namespace Go.Proofs.Ytefaapcekbgjoaa
open Go.RowKit

theorem boxes5 (w : World) (t1 t2 t3 t4 t5 : TypeId) (a b c d e : Value) (w1 : World) (hw1 : w1 = ((((w.alloc (.cells #[a] t1)).alloc (.cells #[b] t2)).alloc (.cells #[c] t3)).alloc (.cells #[d] t4)).alloc (.cells #[e] t5)) :
    Blk w1 w.heap.size t1 #[a] ∧ Blk w1 (w.heap.size + 1) t2 #[b] ∧ Blk w1 (w.heap.size + 1 + 1) t3 #[c] ∧ Blk w1 (w.heap.size + 1 + 1 + 1) t4 #[d] ∧ Blk w1 (w.heap.size + 1 + 1 + 1 + 1) t5 #[e] := by
  subst hw1
  refine ⟨((((Blk.new w t1 #[a]).alloc _).alloc _).alloc _).alloc _, ?_, ?_, ?_, ?_⟩
  · have h := (((Blk.new (w.alloc (.cells #[a] t1)) t2 #[b]).alloc (.cells #[c] t3)).alloc (.cells #[d] t4)).alloc (.cells #[e] t5)
    rw [World.size_alloc] at h
    exact h
  · have h := ((Blk.new ((w.alloc (.cells #[a] t1)).alloc (.cells #[b] t2)) t3 #[c]).alloc (.cells #[d] t4)).alloc (.cells #[e] t5)
    rw [World.size_alloc, World.size_alloc] at h
    exact h
  · have h := (Blk.new (((w.alloc (.cells #[a] t1)).alloc (.cells #[b] t2)).alloc (.cells #[c] t3)) t4 #[d]).alloc (.cells #[e] t5)
    rw [World.size_alloc, World.size_alloc, World.size_alloc] at h
    exact h
  · have h := Blk.new ((((w.alloc (.cells #[a] t1)).alloc (.cells #[b] t2)).alloc (.cells #[c] t3)).alloc (.cells #[d] t4)) t5 #[e]
    rw [World.size_alloc, World.size_alloc, World.size_alloc, World.size_alloc] at h
    exact h
set_option maxRecDepth 100000 in
set_option maxHeartbeats 1000000 in
theorem throws_any (k n : Int) (hk : k = 0 ∨ k = 1 ∨ k = 2) (hn1 : 1 ≤ n) (hn2 : n ≤ 1000) (bA : Option Addr) (bc : Nat) (bs : List UInt8) (hl : bs.length ≤ 140737488351232) (pq qo : Nat) (t : TypeId) (cs : List Value) (hqo : qo < cs.length) : ∀ d : Nat, d ≤ 1000 → ThrowsAt d k n bA bc bs pq qo t cs := by
  intro d
  induction d with
  | zero =>
    intro _ w hb hbq hB
    have hq : w.cell? ⟨pq, qo, none⟩ = some cs[qo] := by rw [hB.at_]; exact List.getElem?_eq_getElem hqo
    have hqf : w.frozen? ⟨pq, qo, none⟩ = false := hB.frozen qo
    have hmf : ∀ (fn : Fn) (first cap : Array Value) (w : World), (Instr.makeFunc fn first cap).run Try.prog w = .ok (.func fn first cap) w := fun _ _ _ _ => rfl
    have hql : pq < w.heap.size := block_lt_of_cell hq
    obtain ⟨w1, hw1⟩ : ∃ w1, w1 = ((((w.alloc (.cells #[.slice bA bs.length bc] 22)).alloc (.cells #[.int .i64 0] 3)).alloc (.cells #[.int .i64 k] 3)).alloc (.cells #[.int .i64 n] 3)).alloc (.cells #[.pointer (some ⟨pq, qo, none⟩)] 103) := ⟨_, rfl⟩
    have hb1 : Below w.heap.size w w1 := by rw [hw1]; exact (((((Below.refl _ _).alloc (Nat.le_refl _) _).alloc (by simp) _).alloc (by simp; omega) _).alloc (by simp; omega) _).alloc (by simp; omega) _
    obtain ⟨B1, B2, B3, B4, B5⟩ := boxes5 w _ _ _ _ _ _ _ _ _ _ w1 hw1
    have h6 : w1.cell? ⟨w.heap.size + 1, 0, none⟩ = some (.int .i64 0) := B2.cell 0
    have h9 : w1.cell? ⟨w.heap.size + 1 + 1 + 1 + 1, 0, none⟩ = some (.pointer (some ⟨pq, qo, none⟩)) := B5.cell 0
    have hq1 : w1.cell? ⟨pq, qo, none⟩ = some cs[qo] := by rw [(bcell hb1).1 _ _ hql]; exact hq
    have hqf1 : w1.frozen? ⟨pq, qo, none⟩ = false := by rw [(bcell hb1).2 _ _ hql]; exact hqf
    have hz1 := B5.lt
    have hB1 := hB.below hb1 hql
    have l6 : w.heap.size + 1 < w1.heap.size := by omega
    have l9 : w.heap.size + 1 + 1 + 1 + 1 < w1.heap.size := hz1
    have hql1 : pq < w1.heap.size := by omega
    have hset : Only (fun b => b = pq) w1 (w1.setCell ⟨pq, qo, none⟩ (.bool true)) := (Only.refl (fun b => b = pq) w1).setCell (p := ⟨pq, qo, none⟩) (.inl rfl) _
    have hthr := throws2_any k n (w.heap.size + 1 + 1) (w.heap.size + 1 + 1 + 1) (w1.setCell ⟨pq, qo, none⟩ (.bool true)) hk hn1 hn2 ((B3.only hset (by omega)).cell 0) ((B4.only hset (by omega)).cell 0)
    have Hthr := Lib.hid hthr
    have Hset := Lib.hid hset
    have Hb1 := Lib.hid hb1
    clear hthr hset hb1 B1 B2 B3 B4 B5 hq hqf hb hB
    have HB1 := Lib.hid hB1
    clear hB1
    go_enter Try.func60, Try.ntmps60
    go_wp2_with (refine wpList_at 11 rfl ?_; refine wp_stop ?_)
    refine ⟨?_⟩
    rw [show ((0 : Nat) : Int) = 0 from rfl, ← hw1]
    clear hw1
    go_wp2_with fail
    refine Hthr.out.mono ?_
    rintro e w3 ⟨Ty, v, hoth, htv, rfl, hb3⟩
    have hz2 : (w1.setCell ⟨pq, qo, none⟩ (.bool true)).heap.size = w1.heap.size := by simp
    rw [hz2] at htv hb3
    have hzw := Hb1.out.size
    have hcq : Blk w3 pq t (cs.set qo (.bool true)).toArray := (HB1.out.setL qo (.bool true)).below hb3 hql1
    have hO : Only (fun b => b = pq) w w3 := ((Only.of_fresh Hb1.out).trans Hset.out).trans (Only.of_fresh (show Below (w1.setCell ⟨pq, qo, none⟩ (.bool true)).heap.size _ w3 from hz2 ▸ hb3))
    have HF := Lib.hid (show ∃ Ty' v', Other Ty' v' ∧ TVal n w.heap.size w3 k Ty' v' ∧ Threw (.iface Ty' v') (.panicked [{ v := .iface Ty v, recovered := false }]) ∧ Blk w3 pq t (cs.set qo (.bool true)).toArray ∧ Only (fun b => b = pq) w w3 from ⟨Ty, v, hoth, htv.only (Only.refl (fun _ => False) w3) hzw (fun _ h => h.elim), ⟨[], rfl, fun p hp => absurd hp (by simp)⟩, hcq, hO⟩)
    clear htv hb3 hz2 hcq hO hoth
    go_wp2_with fail
    exact ⟨rfl, HF.out⟩
  | succ d IH =>
    intro hd w hb hbq hB
    have IH := IH (by omega)
    have hq : w.cell? ⟨pq, qo, none⟩ = some cs[qo] := by rw [hB.at_]; exact List.getElem?_eq_getElem hqo
    have hqf : w.frozen? ⟨pq, qo, none⟩ = false := hB.frozen qo
    rw [show ((d + 1 : Nat) : Int) = (d : Int) + 1 from by omega]
    have hmf : ∀ (fn : Fn) (first cap : Array Value) (w : World), (Instr.makeFunc fn first cap).run Try.prog w = .ok (.func fn first cap) w := fun _ _ _ _ => rfl
    have hql : pq < w.heap.size := block_lt_of_cell hq
    obtain ⟨w1, hw1⟩ : ∃ w1, w1 = ((((w.alloc (.cells #[.slice bA bs.length bc] 22)).alloc (.cells #[.int .i64 ((d : Int) + 1)] 3)).alloc (.cells #[.int .i64 k] 3)).alloc (.cells #[.int .i64 n] 3)).alloc (.cells #[.pointer (some ⟨pq, qo, none⟩)] 103) := ⟨_, rfl⟩
    have hb1 : Below w.heap.size w w1 := by rw [hw1]; exact (((((Below.refl _ _).alloc (Nat.le_refl _) _).alloc (by simp) _).alloc (by simp; omega) _).alloc (by simp; omega) _).alloc (by simp; omega) _
    obtain ⟨B1, B2, B3, B4, B5⟩ := boxes5 w _ _ _ _ _ _ _ _ _ _ w1 hw1
    have h6 : w1.cell? ⟨w.heap.size + 1, 0, none⟩ = some (.int .i64 ((d : Int) + 1)) := B2.cell 0
    have h9 : w1.cell? ⟨w.heap.size + 1 + 1 + 1 + 1, 0, none⟩ = some (.pointer (some ⟨pq, qo, none⟩)) := B5.cell 0
    have hq1 : w1.cell? ⟨pq, qo, none⟩ = some cs[qo] := by rw [(bcell hb1).1 _ _ hql]; exact hq
    have hqf1 : w1.frozen? ⟨pq, qo, none⟩ = false := by rw [(bcell hb1).2 _ _ hql]; exact hqf
    have hz1 := B5.lt
    have hB1 := hB.below hb1 hql
    have l6 : w.heap.size + 1 < w1.heap.size := by omega
    have l9 : w.heap.size + 1 + 1 + 1 + 1 < w1.heap.size := hz1
    have hql1 : pq < w1.heap.size := by omega
    have hgt : (0 : Int) < (d : Int) + 1 := by omega
    have h5 : w1.cell? ⟨w.heap.size, 0, none⟩ = some (.slice bA bs.length bc) := B1.cell 0
    have l5 : w.heap.size < w1.heap.size := by omega
    have h7 : w1.cell? ⟨w.heap.size + 1 + 1, 0, none⟩ = some (.int .i64 k) := B3.cell 0
    have h8 : w1.cell? ⟨w.heap.size + 1 + 1 + 1, 0, none⟩ = some (.int .i64 n) := B4.cell 0
    have hsb := hb.below hb1
    have hread := read_thr ⟨bA, bc, bs⟩ w1 hsb hl 77 #[] #[.pointer (some ⟨w.heap.size, 0, none⟩), .pointer (some ⟨w.heap.size + 1, 0, none⟩), .pointer (some ⟨w.heap.size + 1 + 1, 0, none⟩), .pointer (some ⟨w.heap.size + 1 + 1 + 1, 0, none⟩), .pointer (some ⟨w.heap.size + 1 + 1 + 1 + 1, 0, none⟩)] (fun b => b = pq)
      (fun g Ty v wx => TVal n (g + 1) wx k Ty v ∧ Blk wx pq t (cs.set qo (.bool true)).toArray ∧ g < wx.heap.size)
      (fun g wx => by go_simp)
      (fun g c A wx hg hbx hrdx hAx => by
        have kx := fun (q : Nat) (hq : q < w1.heap.size) => (bcell hbx).1 q 0 hq
        have hgx := hrdx.blk.lt
        refine (throws1_any d k n bA bc bs pq qo t cs IH (by omega) g c w.heap.size (w.heap.size + 1) (w.heap.size + 1 + 1) (w.heap.size + 1 + 1 + 1) (w.heap.size + 1 + 1 + 1 + 1) A wx hrdx hl (by rw [kx _ l5]; exact h5) (by rw [kx _ l6]; exact h6) (by rw [kx _ (by omega)]; exact h7) (by rw [kx _ (by omega)]; exact h8) (by rw [kx _ l9]; exact h9)
          (hsb.below hbx) hbq (hB1.below hbx hql1) (by omega) (fun b o e => by have := hAx b o e; omega)).mono ?_
        rintro e wy ⟨Ty, v, hrdy, hoth, htv, hth, hcq, hOy⟩
        have hzy := hOy.size
        exact ⟨0, false, 0, Ty, v, hrdy, ⟨htv.only (Only.refl (fun _ => False) wy) (by omega) (fun _ h => h.elim), hcq, by omega⟩, hOy.mono fun _ _ e => .inr e, hoth, hth⟩)
      (fun b hb => by omega)
    dsimp only at hread
    have Hread := Lib.hid hread
    have Hb1 := Lib.hid hb1
    clear hread hb1 B1 B2 B3 B4 B5 hq hqf hb hsb h7 h8 IH
    go_enter Try.func60, Try.ntmps60
    go_wp2_with (refine wpList_at 11 rfl ?_; refine wp_stop ?_)
    refine ⟨?_⟩
    rw [← hw1]
    clear hw1
    go_wp2_with fail
    refine Hread.out.mono ?_
    rintro e w3 ⟨g, w2, Ty, v, hg, ⟨htv, hcq, hgw⟩, hoth, ⟨old, rfl, hold⟩, hO23, hO3⟩
    have hzw := Hb1.out.size
    have htv3 := htv.only (base' := w.heap.size) hO23 (by omega) (fun b e => by omega)
    have hcq3 := hcq.only hO23 (by omega)
    have HF := Lib.hid (show ∃ Ty' v', Other Ty' v' ∧ TVal n w.heap.size w3 k Ty' v' ∧ Threw (.iface Ty' v') (.panicked ({ v := .iface Ty v, recovered := false } :: old)) ∧ Blk w3 pq t (cs.set qo (.bool true)).toArray ∧ Only (fun b => b = pq) w w3 from ⟨Ty, v, hoth, htv3, ⟨old, rfl, hold⟩, hcq3, (Only.of_fresh Hb1.out).trans hO3⟩)
    clear htv htv3 hcq hcq3 hO23 hO3 hoth hold Hread
    go_wp2_with fail
    exact ⟨rfl, HF.out⟩
end Go.Proofs.Ytefaapcekbgjoaa
