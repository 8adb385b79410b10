/- The walk of MintCatches' second closure. -/
import Derived.Test.YtefaapcekbgjoaaCatchB
namespace Go.Proofs.Ytefaapcekbgjoaa
open Go.RowKit

def Catch2 (g c n po : Nat) (A : Option Addr) (bs : List UInt8) (f : Int) (w : World) (e : Ending) (w' : World) : Prop :=
  (∃ at_, Rd w' g A c bs at_ true (faultF bs n f)) ∧ w'.cell? ⟨po, 0, none⟩ = some (.bool true) ∧ w'.frozen? ⟨po, 0, none⟩ = false ∧ Only (fun b => b = g ∨ b = po) w w' ∧ (e = .returned (.tuple #[]) ∨ e = .panicked [endedE g])
set_option maxRecDepth 100000 in
set_option maxHeartbeats 1000000 in
theorem catch2_any (late : Bool) (g c n pl po pr pf : Nat) (A : Option Addr) (bs : List UInt8) (f : Int) (w : World) (h : Rd w g A c bs 0 false 0) (hl : bs.length ≤ 140737488351232) (hf : f ≠ 0) (hn : n ≤ 1000) {v : Value}
    (hlt : w.cell? ⟨pl, 0, none⟩ = some (.bool late)) (ho : w.cell? ⟨po, 0, none⟩ = some v) (hof : w.frozen? ⟨po, 0, none⟩ = false) (hr : w.cell? ⟨pr, 0, none⟩ = some (.int .i64 (n : Int))) (hpf : w.cell? ⟨pf, 0, none⟩ = some (.int .i64 f))
    (hgr : pr ≠ g) (hgf : pf ≠ g) (hgo : po ≠ g) (hA : ∀ b o, A = some ⟨b, o, none⟩ → b ≠ po) :
    Calls Try.prog 42 #[.pointer (some ⟨g, 0, none⟩), .pointer (some ⟨pl, 0, none⟩), .pointer (some ⟨po, 0, none⟩), .pointer (some ⟨pr, 0, none⟩), .pointer (some ⟨pf, 0, none⟩)] w (Catch2 g c n po A bs f w) := by
  have hmf : ∀ (fn : Fn) (first cap : Array Value) (w : World), (Instr.makeFunc fn first cap).run Try.prog w = .ok (.func fn first cap) w := fun _ _ _ _ => rfl
  have hll : pl < w.heap.size := block_lt_of_cell hlt
  have hol : po < w.heap.size := block_lt_of_cell ho
  have hrl : pr < w.heap.size := block_lt_of_cell hr
  have hfl : pf < w.heap.size := block_lt_of_cell hpf
  have hgl := h.blk.lt
  have H := Lib.hid h
  clear h
  obtain ⟨w0, hw0⟩ : ∃ w0, w0 = w.alloc (.cells #[.pointer (some ⟨g, 0, none⟩)] 49) := ⟨_, rfl⟩
  have hb0 : Below w.heap.size w w0 := by rw [hw0]; exact (Below.refl _ _).alloc (Nat.le_refl _) _
  have hq0 : w0.cell? ⟨w.heap.size, 0, none⟩ = some (.pointer (some ⟨g, 0, none⟩)) := by rw [hw0]; exact (Blk.new w _ #[_]).cell 0
  have hz0 : w.heap.size < w0.heap.size := block_lt_of_cell hq0
  have hl0 : w0.cell? ⟨pl, 0, none⟩ = some (.bool late) := by rw [(bcell hb0).1 _ _ hll]; exact hlt
  have ho0 : w0.cell? ⟨po, 0, none⟩ = some v := by rw [(bcell hb0).1 _ _ hol]; exact ho
  have hof0 : w0.frozen? ⟨po, 0, none⟩ = false := by rw [(bcell hb0).2 _ _ hol]; exact hof
  have hr0 : w0.cell? ⟨pr, 0, none⟩ = some (.int .i64 (n : Int)) := by rw [(bcell hb0).1 _ _ hrl]; exact hr
  have hf0 : w0.cell? ⟨pf, 0, none⟩ = some (.int .i64 f) := by rw [(bcell hb0).1 _ _ hfl]; exact hpf
  have hll0 : pl < w0.heap.size := by omega
  have hol0 : po < w0.heap.size := by omega
  have hrl0 : pr < w0.heap.size := by omega
  have hfl0 : pf < w0.heap.size := by omega
  have hql0 : w.heap.size < w0.heap.size := hz0
  have hgq : w.heap.size ≠ g := by omega
  have H0 := Lib.hid (H.out.below hb0)
  have hR : ∀ (e : Ending) (w' : World), (∃ at_, Rd w' g A c bs at_ true (faultF bs n f)) → w'.cell? ⟨po, 0, none⟩ = some (.bool true) → w'.frozen? ⟨po, 0, none⟩ = false → Only (fun b => b = g ∨ b = po) w0 w' → (e = .returned (.tuple #[]) ∨ e = .panicked [endedE g]) → Catch2 g c n po A bs f w e w' := fun e w' h1 h2 h5 h3 h4 => ⟨h1, h2, h5, (Only.of_fresh hb0).trans h3, h4⟩
  have HR := Lib.hid hR
  clear hR hlt ho hof hr hpf hb0
  cases late with
  | true =>
    go_enter_defers Try.func42, Try.ntmps42
    go_wp2_with (refine wpList_at 7 rfl ?_; refine wp_stop ?_)
    refine ⟨?_⟩
    rw [← hw0]
    clear hw0
    go_wp2_with fail
    go_loopw [6] (fun i wr => ∃ (j a : Nat), j ≤ n ∧ i = .int .i64 j ∧ Rd wr g A c bs a false 0 ∧ Hid (numsF bs n 0 = numsF bs (n - j) a) ∧ Only (fun b => b = g) w0 wr) (fun i _ => n - (intOf i).toNat)
    case atStart => exact ⟨0, 0, Nat.zero_le _, rfl, H0.out, Lib.hid rfl, Only.refl _ _⟩
    case round =>
      rename World => w1
      obtain ⟨j, a, hj, rfl, hrd, hnum, hO⟩ := hrel
      have hr1 : w1.cell? ⟨pr, 0, none⟩ = some (.int .i64 (n : Int)) := by rw [(ocell hO).1 _ _ hrl0 hgr]; exact hr0
      have hf1 : w1.cell? ⟨pf, 0, none⟩ = some (.int .i64 f) := by rw [(ocell hO).1 _ _ hfl0 hgf]; exact hf0
      have hq1 : w1.cell? ⟨w.heap.size, 0, none⟩ = some (.pointer (some ⟨g, 0, none⟩)) := by rw [(ocell hO).1 _ _ hql0 hgq]; exact hq0
      have hql1 := block_lt_of_cell hq1
      have hrl1 := block_lt_of_cell hr1
      have hfl1 := block_lt_of_cell hf1
      have Hrd := Lib.hid hrd
      have HO := Lib.hid hO
      clear hrd hO
      by_cases hlt : j < n
      · have g1 : (j : Int) < (n : Int) := by omega
        have hc := rNum_any g c a A bs w1 Hrd.out hl
        obtain ⟨q, hq⟩ : ∃ q, n - j = q + 1 := ⟨n - j - 1, by omega⟩
        have hq2 : n - (j + 1) = q := by omega
        have hnum2 := hnum.out
        rw [hq, numsF_succ] at hnum2
        cases hr : rNumL bs a with
        | error f2 =>
          rw [hr] at hc hnum2
          dsimp only at hc hnum2
          have hf2 := rNumL_err hr
          have e : faultF bs n f = f2 := by unfold faultF; rw [hnum2, if_neg hf2]
          have E := Lib.hid e
          have Hc := Lib.hid hc
          clear hc hnum2 hr e hnum hf2
          go_wp2_with fail
          refine Hc.out.mono ?_
          rintro e w5 ⟨rfl, hrd5, ho5⟩
          have hO5 := Lib.hid (HO.out.trans ho5)
          rw [← E.out] at hrd5
          have Hrd5 := Lib.hid hrd5
          clear hrd5 ho5 Hc
          go_wp2_with fail
          have hq5 : w5.cell? ⟨w.heap.size, 0, none⟩ = some (.pointer (some ⟨g, 0, none⟩)) := by rw [(ocell hO5.out).1 _ _ hql0 hgq]; exact hq0
          have ho5 : w5.cell? ⟨po, 0, none⟩ = some v := by rw [(ocell hO5.out).1 _ _ hol0 hgo]; exact ho0
          have hof5 : w5.frozen? ⟨po, 0, none⟩ = false := by rw [(ocell hO5.out).2 _ _ hol0 hgo]; exact hof0
          obtain ⟨at5, hrd5⟩ := Hrd5.out
          have hq5 : w5.cell? ⟨w.heap.size, 0, none⟩ = some (.pointer (some ⟨g, 0, none⟩)) := by rw [(ocell hO5.out).1 _ _ hql0 hgq]; exact hq0
          have ho5 : w5.cell? ⟨po, 0, none⟩ = some v := by rw [(ocell hO5.out).1 _ _ hol0 hgo]; exact ho0
          have hof5 : w5.frozen? ⟨po, 0, none⟩ = false := by rw [(ocell hO5.out).2 _ _ hol0 hgo]; exact hof0
          obtain ⟨at5, hrd5⟩ := Hrd5.out
          refine leaves_cons (f := 43) (args := #[.pointer (some ⟨w.heap.size, 0, none⟩), .pointer (some ⟨po, 0, none⟩)]) (by simp) (by simp [go_sem]) ?_
          refine (catch21_any g c at5 w.heap.size po A bs _ w5 hrd5 hq5 (.panicking [endedE g]) ho5 hof5).mono ?_
          rintro e u' w6 ⟨rfl, rfl, rfl⟩
          have hset : Only (fun b => b = po) w5 (w5.setCell ⟨po, 0, none⟩ (.bool true)) := (Only.refl (fun b => b = po) w5).setCell (p := ⟨po, 0, none⟩) (.inl rfl) _
          exact HR.out _ _ ⟨at5, hrd5.only hset (fun e => hgo e.symm) fun b o e => hA b o e⟩ (World.cell?_setCell_same _ _ _ ho5) (by simpa using hof5) ((hO5.out.mono fun _ _ e => .inl e).trans (hset.mono fun _ _ e => .inr e)) (.inr rfl)
        | ok p =>
          obtain ⟨u, k⟩ := p
          rw [hr] at hc hnum2
          dsimp only at hc hnum2
          have Hn2 := Lib.hid hnum2
          have Hc := Lib.hid hc
          clear hc hnum2 hr hnum
          go_wp2_with fail
          refine Hc.out.mono ?_
          rintro e w5 ⟨rfl, hrd5, ho5⟩
          have hO5 := Lib.hid (HO.out.trans ho5)
          have Hrd5 := Lib.hid hrd5
          clear hrd5 ho5 Hc
          go_wp2_with fail
          exact ⟨⟨j + 1, a + k, by omega, by go_num, Hrd5.out, by rw [hq2]; exact Hn2, hO5.out⟩, by simp [intOf]; omega⟩
      · obtain rfl : j = n := by omega
        have hn0 := hnum.out
        rw [Nat.sub_self] at hn0
        have e : faultF bs j f = f := by unfold faultF; rw [if_pos (by rw [hn0]; rfl)]
        have E := Lib.hid e
        clear e hn0 hnum
        have hc := fail_any g c a A bs f hf w1 Hrd.out
        have Hc := Lib.hid hc
        clear hc
        go_wp2_with fail
        refine Hc.out.mono ?_
        rintro e w5 ⟨rfl, hrd5, ho5⟩
        have hO5 := Lib.hid (HO.out.trans ho5)
        rw [← E.out] at hrd5
        have Hrd5 := Lib.hid hrd5
        clear hrd5 ho5 Hc
        go_wp2_with fail
        have hq5 : w5.cell? ⟨w.heap.size, 0, none⟩ = some (.pointer (some ⟨g, 0, none⟩)) := by rw [(ocell hO5.out).1 _ _ hql0 hgq]; exact hq0
        have ho5 : w5.cell? ⟨po, 0, none⟩ = some v := by rw [(ocell hO5.out).1 _ _ hol0 hgo]; exact ho0
        have hof5 : w5.frozen? ⟨po, 0, none⟩ = false := by rw [(ocell hO5.out).2 _ _ hol0 hgo]; exact hof0
        obtain ⟨at5, hrd5⟩ := Hrd5.out
        have hq5 : w5.cell? ⟨w.heap.size, 0, none⟩ = some (.pointer (some ⟨g, 0, none⟩)) := by rw [(ocell hO5.out).1 _ _ hql0 hgq]; exact hq0
        have ho5 : w5.cell? ⟨po, 0, none⟩ = some v := by rw [(ocell hO5.out).1 _ _ hol0 hgo]; exact ho0
        have hof5 : w5.frozen? ⟨po, 0, none⟩ = false := by rw [(ocell hO5.out).2 _ _ hol0 hgo]; exact hof0
        obtain ⟨at5, hrd5⟩ := Hrd5.out
        refine leaves_cons (f := 43) (args := #[.pointer (some ⟨w.heap.size, 0, none⟩), .pointer (some ⟨po, 0, none⟩)]) (by simp) (by simp [go_sem]) ?_
        refine (catch21_any g c at5 w.heap.size po A bs _ w5 hrd5 hq5 (.panicking [endedE g]) ho5 hof5).mono ?_
        rintro e u' w6 ⟨rfl, rfl, rfl⟩
        have hset : Only (fun b => b = po) w5 (w5.setCell ⟨po, 0, none⟩ (.bool true)) := (Only.refl (fun b => b = po) w5).setCell (p := ⟨po, 0, none⟩) (.inl rfl) _
        exact HR.out _ _ ⟨at5, hrd5.only hset (fun e => hgo e.symm) fun b o e => hA b o e⟩ (World.cell?_setCell_same _ _ _ ho5) (by simpa using hof5) ((hO5.out.mono fun _ _ e => .inl e).trans (hset.mono fun _ _ e => .inr e)) (.inr rfl)
  | false =>
    go_enter_defers Try.func42, Try.ntmps42
    go_wp2_with (refine wpList_at 7 rfl ?_; refine wp_stop ?_)
    refine ⟨?_⟩
    rw [← hw0]
    clear hw0
    have hc := caught_any g c n A bs f w0 H0.out hl hf hn
    have Hc := Lib.hid hc
    clear hc
    go_wp2_with fail
    refine Hc.out.mono ?_
    rintro e w2 ⟨rfl, ⟨at_, hrd2⟩, hO2⟩
    have ho2 : w2.cell? ⟨po, 0, none⟩ = some v := by rw [(ocell hO2).1 _ _ hol0 hgo]; exact ho0
    have hof2 : w2.frozen? ⟨po, 0, none⟩ = false := by rw [(ocell hO2).2 _ _ hol0 hgo]; exact hof0
    have hol2 := block_lt_of_cell ho2
    have Hrd2 := Lib.hid hrd2
    have HO2 := Lib.hid hO2
    clear hrd2 hO2 Hc
    go_wp2_with fail
    have hset : Only (fun b => b = po) w2 (w2.setCell ⟨po, 0, none⟩ (.bool true)) := (Only.refl (fun b => b = po) w2).setCell (p := ⟨po, 0, none⟩) (.inl rfl) _
    exact ⟨.tuple #[], results_none rfl _ _ _, HR.out _ _ ⟨at_, Hrd2.out.only hset (fun e => hgo e.symm) fun b o e => hA b o e⟩ (World.cell?_setCell_same _ _ _ ho2) (by simpa using hof2) ((HO2.out.mono fun _ _ e => .inl e).trans (hset.mono fun _ _ e => .inr e)) (.inl rfl)⟩
end Go.Proofs.Ytefaapcekbgjoaa
