/- The walk of through. -/
import Derived.Test.YtefaapcekbgjoaaThrF
namespace Go.Proofs.Ytefaapcekbgjoaa
open Go.RowKit

theorem drop_all : ∀ l : List PanicEntry, (∀ p ∈ l, p.goexit = false) → l.dropWhile (fun p => !p.goexit) = []
  | [], _ => rfl
  | p :: l, h => by
    rw [List.dropWhile_cons, if_pos (by rw [h p (by simp)]; rfl)]
    exact drop_all l fun q hq => h q (by simp [hq])

set_option maxRecDepth 100000 in
set_option maxHeartbeats 1000000 in
theorem through_fault (n d : Nat) (k nn : Int) (bA : Option Addr) (bc : Nat) (bs : List UInt8) (w : World) (hb : Sl w ⟨bA, bc, bs⟩) (hl : bs.length ≤ 140737488351232) (F : Int) (hFe : F = numsF bs n 0) (hF : F ≠ 0) (hn : n ≤ 1000) :
    Calls Try.prog 29 #[.slice bA bs.length bc, .int .i64 (n : Int), .int .i64 (d : Int), .int .i64 k, .int .i64 nn] w fun e w' => e = .returned (.agg #[.bool false, .int .i64 0, .int .i64 F, .bool false]) ∧ Below w.heap.size w w' := by
  have hmf : ∀ (fn : Fn) (first cap : Array Value) (w : World), (Instr.makeFunc fn first cap).run Try.prog w = .ok (.func fn first cap) w := fun _ _ _ _ => rfl
  obtain ⟨w0, hw0⟩ : ∃ w0, w0 = ((((w.alloc (.cells #[.slice bA bs.length bc] 22)).alloc (.cells #[.int .i64 (n : Int)] 3)).alloc (.cells #[.int .i64 (d : Int)] 3)).alloc (.cells #[.int .i64 k] 3)).alloc (.cells #[.int .i64 nn] 3) := ⟨_, rfl⟩
  have hb0 : Below w.heap.size w w0 := by rw [hw0]; exact (((((Below.refl _ _).alloc (Nat.le_refl _) _).alloc (by simp) _).alloc (by simp; omega) _).alloc (by simp; omega) _).alloc (by simp; omega) _
  obtain ⟨B1, B2, B3, B4, B5⟩ := boxes5 w _ _ _ _ _ _ _ _ _ _ w0 hw0
  have hz0 : w0.heap.size = w.heap.size + 1 + 1 + 1 + 1 + 1 := by rw [hw0]; simp
  go_enter_defers Try.func29, Try.ntmps29
  go_wp2_with (refine wpList_at 11 rfl ?_; refine wp_stop ?_)
  refine ⟨?_⟩
  rw [← hw0]
  obtain ⟨po, hpo⟩ : ∃ po, po = w.heap.size + 1 + 1 + 1 + 1 + 1 := ⟨_, rfl⟩
  rw [← hpo] at hz0 ⊢
  obtain ⟨w1, hw1⟩ : ∃ w1, w1 = w0.alloc (.cells #[.bool false, .int .i64 0, .int .i64 0, .bool false] 46) := ⟨_, rfl⟩
  rw [← hw1]
  have hb01 : Below w0.heap.size w0 w1 := by rw [hw1]; exact (Below.refl _ _).alloc (Nat.le_refl _) _
  have hC1 : Blk w1 po 46 #[.bool false, .int .i64 0, .int .i64 0, .bool false] := by rw [hw1, ← hz0]; exact Blk.new _ _ _
  have hb1 : Below w.heap.size w w1 := hb0.trans (hb01.mono (by omega))
  have C1 := B1.below hb01 (by omega)
  have C2 := B2.below hb01 (by omega)
  have C3 := B3.below hb01 (by omega)
  have C4 := B4.below hb01 (by omega)
  have C5 := B5.below hb01 (by omega)
  have h5 : w1.cell? ⟨w.heap.size, 0, none⟩ = some (.slice bA bs.length bc) := C1.cell 0
  have h6 : w1.cell? ⟨w.heap.size + 1, 0, none⟩ = some (.int .i64 (n : Int)) := C2.cell 0
  have h7 : w1.cell? ⟨w.heap.size + 1 + 1, 0, none⟩ = some (.int .i64 (d : Int)) := C3.cell 0
  have h8 : w1.cell? ⟨w.heap.size + 1 + 1 + 1, 0, none⟩ = some (.int .i64 k) := C4.cell 0
  have h9 : w1.cell? ⟨w.heap.size + 1 + 1 + 1 + 1, 0, none⟩ = some (.int .i64 nn) := C5.cell 0
  have hpl := hC1.lt
  have l5 : w.heap.size < w1.heap.size := by omega
  have hsb := hb.below hb1
  have hpo5 : w.heap.size + 5 ≤ po := by omega
  have hread := read_any ⟨bA, bc, bs⟩ w1 hsb hl 59 #[] #[.pointer (some ⟨w.heap.size + 1, 0, none⟩), .pointer (some ⟨w.heap.size, 0, none⟩), .pointer (some ⟨w.heap.size + 1 + 1, 0, none⟩), .pointer (some ⟨w.heap.size + 1 + 1 + 1, 0, none⟩), .pointer (some ⟨w.heap.size + 1 + 1 + 1 + 1, 0, none⟩), .pointer (some ⟨po, 0, none⟩)] (fun _ => False)
    (fun g' at_ o f' wx => f' = F)
    (fun g' wx => by go_simp)
    (fun g' c' A' wx hg' hbx hrdx hAx => by
      refine (thr2_fault g' c' n (w.heap.size + 1) w.heap.size (w.heap.size + 1 + 1) (w.heap.size + 1 + 1 + 1) (w.heap.size + 1 + 1 + 1 + 1) po A' bs wx hrdx hl (hFe ▸ hF) hn (by rw [(bcell hbx).1 _ _ (by omega)]; exact h6) (by omega)).mono ?_
      rintro e wy ⟨rfl, ⟨at_, hrdy⟩, hOy⟩
      rw [← hFe] at hrdy
      exact ⟨at_, true, _, hrdy, rfl, hOy.mono fun _ _ e => .inl e, .inr ⟨rfl, hF⟩⟩)
    (fun b hb => hb.elim)
  dsimp only at hread
  have hE : ∀ q, readE F q bs.length = F := fun q => by unfold readE; rw [if_pos hF]
  have Hread := Lib.hid hread
  have HE := Lib.hid hE
  have HC1 := Lib.hid hC1
  have Hb1 := Lib.hid hb1
  clear hread hE hFe hC1 hb1 hsb hb hb0 hb01 B1 B2 B3 B4 B5 C1 C2 C3 C4 C5 h6 h7 h8 h9 hw0 hw1 hF hz0 hpo
  go_wp2_with fail
  refine Hread.out.mono ?_
  rintro e w2 ⟨g', at_, o, f', wx, hg', hfe, rfl, hO2x, hO2⟩
  rw [hfe, HE.out]
  have hC2 := HC1.out.only hO2 (fun h => h)
  have hz2 := hO2.size
  have c0 : w2.cell? ⟨po, 0, none⟩ = some (.bool false) := hC2.cell 0
  have c1 : w2.cell? ⟨po, 1, none⟩ = some (.int .i64 0) := hC2.cell 1
  have c2 : w2.cell? ⟨po, 2, none⟩ = some (.int .i64 0) := hC2.cell 2
  have c3 : w2.cell? ⟨po, 3, none⟩ = some (.bool false) := hC2.cell 3
  have f0 := hC2.frozen 0
  have f1 := hC2.frozen 1
  have f2 := hC2.frozen 2
  have f3 := hC2.frozen 3
  have hpl2 := hC2.lt
  have HB2 := Lib.hid (Hb1.out.trans (hO2.below (by omega) fun p hp e => e))
  have HC2 := Lib.hid hC2
  clear hO2x hO2 hfe hC2 Hread
  go_wp2_with (refine wpList_at 16 rfl ?_; refine wp_stop ?_)
  refine ⟨?_⟩
  obtain ⟨w3, hw3⟩ : ∃ w3, w3 = w2.setCell ⟨po, 2, none⟩ (.int .i64 F) := ⟨_, rfl⟩
  rw [← hw3]
  have hC3 : Blk w3 po 46 #[.bool false, .int .i64 0, .int .i64 F, .bool false] := by rw [hw3]; exact Blk.setL (cs := [.bool false, .int .i64 0, .int .i64 0, .bool false]) HC2.out 2 (.int .i64 F)
  have hzw := HB2.out.size
  have HB3 : Hid (Below w.heap.size w w3) := Lib.hid (by rw [hw3]; exact HB2.out.setCell (by show w.heap.size ≤ po; omega) _)
  clear c0 c1 c2 c3 f0 f1 f2 f3 hpl2 hw3 HC2
  have c0 : w3.cell? ⟨po, 0, none⟩ = some (.bool false) := hC3.cell 0
  have c1 : w3.cell? ⟨po, 1, none⟩ = some (.int .i64 0) := hC3.cell 1
  have c2 : w3.cell? ⟨po, 2, none⟩ = some (.int .i64 F) := hC3.cell 2
  have c3 : w3.cell? ⟨po, 3, none⟩ = some (.bool false) := hC3.cell 3
  have f0 := hC3.frozen 0
  have f1 := hC3.frozen 1
  have f2 := hC3.frozen 2
  have f3 := hC3.frozen 3
  have hpl3 := hC3.lt
  have HC3 := Lib.hid hC3
  clear hC3
  go_wp2_with fail
  obtain ⟨w4, hw4⟩ : ∃ w4, w4 = (((w3.setCell ⟨po, 0, none⟩ (.bool false)).setCell ⟨po, 1, none⟩ (.int .i64 0)).setCell ⟨po, 2, none⟩ (.int .i64 F)).setCell ⟨po, 3, none⟩ (.bool false) := ⟨_, rfl⟩
  rw [← hw4]
  have hC4 : Blk w4 po 46 #[.bool false, .int .i64 0, .int .i64 F, .bool false] := by
    rw [hw4]
    have h0 := Blk.setL (cs := [.bool false, .int .i64 0, .int .i64 F, .bool false]) HC3.out 0 (.bool false)
    have h1 := Blk.setL (cs := [.bool false, .int .i64 0, .int .i64 F, .bool false]) h0 1 (.int .i64 0)
    have h2 := Blk.setL (cs := [.bool false, .int .i64 0, .int .i64 F, .bool false]) h1 2 (.int .i64 F)
    exact Blk.setL (cs := [.bool false, .int .i64 0, .int .i64 F, .bool false]) h2 3 (.bool false)
  have hwpo : w.heap.size ≤ po := by omega
  have HB4 : Hid (Below w.heap.size w w4) := Lib.hid (by rw [hw4]; exact (((HB3.out.setCell hwpo _).setCell hwpo _).setCell hwpo _).setCell hwpo _)
  clear c0 c1 c2 c3 f0 f1 f2 f3 hpl3 HC3 hw4
  have c0 : w4.cell? ⟨po, 0, none⟩ = some (.bool false) := hC4.cell 0
  have c1 : w4.cell? ⟨po, 1, none⟩ = some (.int .i64 0) := hC4.cell 1
  have c2 : w4.cell? ⟨po, 2, none⟩ = some (.int .i64 F) := hC4.cell 2
  have c3 : w4.cell? ⟨po, 3, none⟩ = some (.bool false) := hC4.cell 3
  have hpl4 := hC4.lt
  clear hC4
  refine leaves_cons (f := 58) (args := #[.pointer (some ⟨po, 0, none⟩)]) (by simp) (by simp [go_sem]) ?_
  refine (thr1_ret po w4).mono ?_
  rintro e u' w5 ⟨rfl, rfl, rfl⟩
  refine ⟨.agg #[.bool false, .int .i64 0, .int .i64 F, .bool false], ?_, rfl, HB4.out⟩
  simp [results, Try.results29, go_sem, c0, c1, c2, c3]
set_option maxRecDepth 100000 in
set_option maxHeartbeats 1000000 in
theorem through_ok (n d : Nat) (k nn : Int) (hk : k = 0 ∨ k = 1 ∨ k = 2) (hn1 : 1 ≤ nn) (hn2 : nn ≤ 1000) (hd : d ≤ 1000) (bA : Option Addr) (bc : Nat) (bs : List UInt8) (w : World) (hb : Sl w ⟨bA, bc, bs⟩) (hl : bs.length ≤ 140737488351232) (hF : numsF bs n 0 = 0) (hn : n ≤ 1000) :
    Calls Try.prog 29 #[.slice bA bs.length bc, .int .i64 (n : Int), .int .i64 (d : Int), .int .i64 k, .int .i64 nn] w fun e w' => e = .returned (.agg #[.bool true, .int .i64 (wantN k nn), .int .i64 0, .bool true]) ∧ Below w.heap.size w w' := by
  have hmf : ∀ (fn : Fn) (first cap : Array Value) (w : World), (Instr.makeFunc fn first cap).run Try.prog w = .ok (.func fn first cap) w := fun _ _ _ _ => rfl
  obtain ⟨w0, hw0⟩ : ∃ w0, w0 = ((((w.alloc (.cells #[.slice bA bs.length bc] 22)).alloc (.cells #[.int .i64 (n : Int)] 3)).alloc (.cells #[.int .i64 (d : Int)] 3)).alloc (.cells #[.int .i64 k] 3)).alloc (.cells #[.int .i64 nn] 3) := ⟨_, rfl⟩
  have hb0 : Below w.heap.size w w0 := by rw [hw0]; exact (((((Below.refl _ _).alloc (Nat.le_refl _) _).alloc (by simp) _).alloc (by simp; omega) _).alloc (by simp; omega) _).alloc (by simp; omega) _
  obtain ⟨B1, B2, B3, B4, B5⟩ := boxes5 w _ _ _ _ _ _ _ _ _ _ w0 hw0
  have hz0 : w0.heap.size = w.heap.size + 1 + 1 + 1 + 1 + 1 := by rw [hw0]; simp
  go_enter_defers Try.func29, Try.ntmps29
  go_wp2_with (refine wpList_at 11 rfl ?_; refine wp_stop ?_)
  refine ⟨?_⟩
  rw [← hw0]
  obtain ⟨po, hpo⟩ : ∃ po, po = w.heap.size + 1 + 1 + 1 + 1 + 1 := ⟨_, rfl⟩
  rw [← hpo] at hz0 ⊢
  obtain ⟨w1, hw1⟩ : ∃ w1, w1 = w0.alloc (.cells #[.bool false, .int .i64 0, .int .i64 0, .bool false] 46) := ⟨_, rfl⟩
  rw [← hw1]
  have hb01 : Below w0.heap.size w0 w1 := by rw [hw1]; exact (Below.refl _ _).alloc (Nat.le_refl _) _
  have hC1 : Blk w1 po 46 #[.bool false, .int .i64 0, .int .i64 0, .bool false] := by rw [hw1, ← hz0]; exact Blk.new _ _ _
  have hb1 : Below w.heap.size w w1 := hb0.trans (hb01.mono (by omega))
  have C1 := B1.below hb01 (by omega)
  have C2 := B2.below hb01 (by omega)
  have C3 := B3.below hb01 (by omega)
  have C4 := B4.below hb01 (by omega)
  have C5 := B5.below hb01 (by omega)
  have h5 : w1.cell? ⟨w.heap.size, 0, none⟩ = some (.slice bA bs.length bc) := C1.cell 0
  have h6 : w1.cell? ⟨w.heap.size + 1, 0, none⟩ = some (.int .i64 (n : Int)) := C2.cell 0
  have h7 : w1.cell? ⟨w.heap.size + 1 + 1, 0, none⟩ = some (.int .i64 (d : Int)) := C3.cell 0
  have h8 : w1.cell? ⟨w.heap.size + 1 + 1 + 1, 0, none⟩ = some (.int .i64 k) := C4.cell 0
  have h9 : w1.cell? ⟨w.heap.size + 1 + 1 + 1 + 1, 0, none⟩ = some (.int .i64 nn) := C5.cell 0
  have hpl := hC1.lt
  have l5 : w.heap.size < w1.heap.size := by omega
  have hsb := hb.below hb1
  have hpo5 : w.heap.size + 5 ≤ po := by omega
  have hbl : bs.length ≠ 0 → ∀ b o, bA = some ⟨b, o, none⟩ → b < w.heap.size := fun h0 b o e => by
    obtain ⟨b', o', h1, h2, _⟩ := hb.rv.at_ (by simp; omega)
    rw [show (Part.mk bA bc bs).A = bA from rfl, e] at h1
    cases h1
    exact h2
  have IH := throws_any k nn hk hn1 hn2 bA bc bs hl po 3 46 [.bool false, .int .i64 0, .int .i64 0, .bool false] (by simp) d hd
  have hread := read_thr ⟨bA, bc, bs⟩ w1 hsb hl 59 #[] #[.pointer (some ⟨w.heap.size + 1, 0, none⟩), .pointer (some ⟨w.heap.size, 0, none⟩), .pointer (some ⟨w.heap.size + 1 + 1, 0, none⟩), .pointer (some ⟨w.heap.size + 1 + 1 + 1, 0, none⟩), .pointer (some ⟨w.heap.size + 1 + 1 + 1 + 1, 0, none⟩), .pointer (some ⟨po, 0, none⟩)] (fun b => b = po)
    (fun g Ty v wx => TVal nn (g + 1) wx k Ty v ∧ Blk wx po 46 #[.bool false, .int .i64 0, .int .i64 0, .bool true])
    (fun g' wx => by go_simp)
    (fun g' c' A' wx hg' hbx hrdx hAx => by
      have kx := fun (q : Nat) (hq : q < w1.heap.size) => (bcell hbx).1 q 0 hq
      have hgx := hrdx.blk.lt
      refine (thr2_ok g' c' n d (w.heap.size + 1) w.heap.size (w.heap.size + 1 + 1) (w.heap.size + 1 + 1 + 1) (w.heap.size + 1 + 1 + 1 + 1) po k nn A' bA bc bs 46 [.bool false, .int .i64 0, .int .i64 0, .bool false] IH wx hrdx hl hF hn (by rw [kx _ (by omega)]; exact h6) (by omega) (by rw [kx _ (by omega)]; exact h5) (by omega) (by rw [kx _ (by omega)]; exact h7) (by omega)
        (by rw [kx _ (by omega)]; exact h8) (by omega) (by rw [kx _ (by omega)]; exact h9) (by omega) (hsb.below hbx) (fun b o h0 e => by have := hbl h0 b o e; omega) (fun b o h0 e => by have := hbl h0 b o e; omega) (hC1.below hbx hpl) (by omega) (fun b o e => by have := hAx b o e; omega)).mono ?_
      rintro e wy ⟨at_, Ty, v, hrdy, hoth, htv, hth, hcq, hOy⟩
      exact ⟨at_, false, 0, Ty, v, hrdy, ⟨htv.only (Only.refl (fun _ => False) wy) (by omega) (fun _ h => h.elim), hcq⟩, hOy, hoth, hth⟩)
    (fun b hb => by omega)
  dsimp only at hread
  have Hread := Lib.hid hread
  have Hb1 := Lib.hid hb1
  clear hread hC1 hb1 hsb hb hb0 hb01 B1 B2 B3 B4 B5 C1 C2 C3 C4 C5 h6 h7 h8 h9 hw0 hw1 hF hz0 hpo IH hbl
  go_wp2_with fail
  refine Hread.out.mono ?_
  rintro e w2 ⟨g, wx, Ty, v, hg, ⟨htv, hC2⟩, hoth, ⟨old, rfl, hold⟩, hO2x, hO2⟩
  have hC2 := hC2.only hO2x (by omega)
  have htv2 := htv.only (base' := 0) hO2x (Nat.zero_le _) (fun b e => by omega)
  have hth := thr1_pan po k nn 0 Ty v old w2 htv2 hC2
  have HB2 := Lib.hid (Hb1.out.trans (hO2.below (by omega) fun p hp e => by omega))
  have Hth := Lib.hid hth
  have Hold := Lib.hid hold
  clear hO2x hO2 hC2 htv htv2 hth hold Hread
  go_wp2_with fail
  refine leaves_cons (f := 58) (args := #[.pointer (some ⟨po, 0, none⟩)]) (by simp) (by simp [go_sem]) ?_
  refine Hth.out.mono ?_
  rintro e u' w5 ⟨rfl, rfl, hC5, hO5⟩
  have hzw := HB2.out.size
  have HB5 := Lib.hid (HB2.out.trans (hO5.below hzw fun p hp e => by omega))
  have c0 : w5.cell? ⟨po, 0, none⟩ = some (.bool true) := hC5.cell 0
  have c1 : w5.cell? ⟨po, 1, none⟩ = some (.int .i64 (wantN k nn)) := hC5.cell 1
  have c2 : w5.cell? ⟨po, 2, none⟩ = some (.int .i64 0) := hC5.cell 2
  have c3 : w5.cell? ⟨po, 3, none⟩ = some (.bool true) := hC5.cell 3
  have hpl5 := hC5.lt
  have hset : settle (.panicking ({ v := .iface Ty v, recovered := true } :: old)) = .returning := by
    have hd := drop_all old Hold.out
    unfold settle
    dsimp only
    rw [hd]
  dsimp only
  rw [hset]
  refine ⟨.agg #[.bool true, .int .i64 (wantN k nn), .int .i64 0, .bool true], ?_, rfl, HB5.out⟩
  simp [results, Try.results29, go_sem, c0, c1, c2, c3]
end Go.Proofs.Ytefaapcekbgjoaa
