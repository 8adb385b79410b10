/- The walk of the reference's Decode (printed by gen_rfdec.py). -/
import Derived.Test.YtmmdkpnoncnjnaaRfTab
import Derived.Test.YtmmdkpnoncnjnaaRfRdr
import Derived.Test.YtmmdkpnoncnjnaaDecK
import Derived.Deep.QuietTactic
import Derived.BigQuiet
namespace Go.Proofs.Ytmmdkpnoncnjnaa
open Go.RowKit
attribute [local go_sem] rowVal

theorem takeL_1 (bs : List UInt8) (a : Nat) : takeL 1 bs a = stepI (numberL bs a) a := by
  unfold takeL
  rw [if_neg (by decide), if_pos rfl]
  cases numberL bs a with
  | error f => rfl
  | ok q => obtain ⟨u, k⟩ := q; rfl
theorem takeL_n (kd : Nat) (h0 : kd ≠ 0) (h1 : kd ≠ 1) (bs : List UInt8) (a : Nat) : takeL kd bs a = stepN (rNumL bs a) a := by
  unfold takeL
  rw [if_neg h0, if_neg h1]
  cases rNumL bs a with
  | error f => rfl
  | ok q => obtain ⟨u, k⟩ := q; rfl
def atR (w : World) (g : Nat) : Nat := match w.cell? ⟨g, 1, none⟩ with | some (.int _ n) => n.toNat | _ => 0
set_option maxRecDepth 100000 in
set_option maxHeartbeats 4000000 in
theorem refDecode_any (A : Option Addr) (c : Nat) (bs : List UInt8) (w : World) (hS : Sl w ⟨A, c, bs⟩) (hl : bs.length ≤ 200000000000000) :
    Calls Try.prog 22 #[.slice A bs.length c] w (DecPost w (decL bs)) := by
  have HS := Lib.hid hS
  clear hS
  by_cases hbig : 40960 < bs.length
  · have g1 : (40960 : Int) < (bs.length : Int) := by omega
    have e : decL bs = ([], 2) := by unfold decL; rw [if_pos hbig]
    rw [e]
    go_enter Try.func22, Try.ntmps22
    go_wp2_with fail
    go_ret2
    exact ⟨none, 0, rfl, Own.nil _ _ _ _, Below.refl _ _⟩
  have g1 : ¬ (40960 : Int) < (bs.length : Int) := by omega
  have hl : bs.length ≤ 140737488351232 := by omega
  obtain ⟨R, hRe⟩ : ∃ R, R = decFrom bs (bs.length + 1) [] 0 := ⟨_, rfl⟩
  have e : decL bs = decR R := by unfold decL; rw [if_neg hbig, hRe]
  rw [e]
  have HRe := Lib.hid hRe
  clear e hRe
  go_enter Try.func22, Try.ntmps22
  go_wp2_with fail
  obtain ⟨w1, hw1⟩ : ∃ w1, w1 = w.alloc (.cells #[.slice A bs.length c, .int .i64 0, .int .i64 0] 87) := ⟨_, rfl⟩
  rw [← hw1]
  have hb1 : Below w.heap.size w w1 := by rw [hw1]; exact (Below.refl _ _).alloc (Nat.le_refl _) _
  have hz1 : w1.heap.size = w.heap.size + 1 := by rw [hw1]; simp
  have hlt0 : bs ≠ [] → ∀ b o, A = some ⟨b, o, none⟩ → b < w.heap.size := fun hn b o e => by
    obtain ⟨b2, o2, e2, h2, -⟩ := HS.out.rv.at_ (by rw [List.length_map]; exact List.length_pos_iff.2 hn)
    dsimp only at e2
    rw [e] at e2
    injection e2 with e2; injection e2 with e2; omega
  have hrr1 : RR w1 w.heap.size A c bs 0 0 := ⟨by rw [hw1]; exact Blk.new w _ _, HS.out.rv.below hb1, fun hn b o e => by have := hlt0 hn b o e; omega, Nat.zero_le _⟩
  obtain ⟨g, hg⟩ : ∃ g, g = w.heap.size := ⟨_, rfl⟩
  rw [← hg] at hrr1 ⊢
  have hg1 : w.heap.size ≤ g := by omega
  have hg2 : g ≤ w.heap.size := by omega
  have hz11 : w1.heap.size ≤ w.heap.size + 1 := by omega
  have hz12 : w.heap.size + 1 ≤ w1.heap.size := by omega
  clear hg hz1
  have Hrr1 := Lib.hid hrr1
  have Hb1 := Lib.hid hb1
  clear hrr1 hb1 hw1
  go_loopw [5] (fun v wr => ∃ (l : List Ins) (a n : Nat) (A' : Option Addr) (c' : Nat), v = .slice A' l.length c' ∧ RR wr g A c bs a 0 ∧ Own wr w1.heap.size 48 2 A' l.length c' (l.flatMap insCells) ∧ l.length ≤ 4096 ∧ bs.length - a < n ∧ Hid (R = decFrom bs n l a) ∧ Below w.heap.size w wr ∧ w1.heap.size ≤ wr.heap.size) (fun _ wr => bs.length - atR wr g)
  case atStart => exact ⟨[], 0, bs.length + 1, none, 0, rfl, Hrr1.out, Own.nil _ _ _ _, by simp, by omega, HRe, Hb1.out, Nat.le_refl _⟩
  case round =>
    rename World => w2
    obtain ⟨l, a, n, A', c', rfl, hrr, hown, hll, hn, hRk, hB, hz2⟩ := hrel
    have hle := hrr.le
    have hgl := hrr.blk.lt
    have hc1 := hrr.c1
    have hat : atR w2 g = a := by unfold atR; rw [hc1]; simp
    obtain ⟨n', rfl⟩ : ∃ n', n = n' + 1 := ⟨n - 1, by omega⟩
    have hRk2 := hRk.out
    unfold decFrom at hRk2
    have hob := Own.row hown
    have hlf := rfLeft_any g c a A bs 0 w2 hrr hl
    have Hlf := Lib.hid hlf
    have Hrr := Lib.hid hrr
    have Hown := Lib.hid hown
    have HB := Lib.hid hB
    clear hlf hrr hown hB hc1
    go_wp2_with fail
    refine Hlf.out.mono ?_
    rintro e w3 ⟨rfl, m, hw3⟩
    have hb23 : Below w2.heap.size w2 w3 := by rw [hw3]; exact below_drewN (Below.refl _ _) m
    have hz3 := hb23.size
    have Hrr3 := Lib.hid (Hrr.out.below hb23)
    have Hown3 := Lib.hid (Own.below Hown.out hb23 (Nat.le_refl _))
    have HB3 := Lib.hid (HB.out.trans (hb23.mono (by have := HB.out.size; omega)))
    clear Hlf hw3 hb23
    by_cases ha : bs.length ≤ a
    · have hz : bs.length - a = 0 := by omega
      rw [if_pos ha] at hRk2
      have HFin := Lib.hid (show DecPost w (decR R) (.returned (.tuple #[.slice A' l.length c', .int .i64 0])) w3 from by rw [hRk2]; exact ⟨A', c', rfl, Hown3.out.mono (by omega), HB3.out⟩)
      clear hRk2 hRk
      rw [hz]
      go_wp2_with fail
      go_ret2
      exact HFin.out
    rw [if_neg ha] at hRk2
    have hpos : (0 : Int) < ((bs.length - a : Nat) : Int) := by omega
    clear hRk
    by_cases hfull : l.length = 4096
    · rw [if_pos hfull] at hRk2
      have hfi : (l.length : Int) = 4096 := by omega
      have HFin := Lib.hid (show DecPost w (decR R) (.returned (.tuple #[.slice none 0 0, .int .i64 2])) w3 from by rw [hRk2]; exact ⟨none, 0, rfl, Own.nil _ _ _ _, HB3.out⟩)
      clear hRk2
      go_wp2_with fail
      go_ret2
      exact HFin.out
    rw [if_neg hfull] at hRk2
    have hfi : ¬ (l.length : Int) = 4096 := by omega
    have hnum := rfReadN_any g c a A bs w3 Hrr3.out hl
    have hgw : g < w3.heap.size := by omega
    cases hr : rNumL bs a with
    | error f2 =>
      rw [hr] at hnum
      have hds : decStep bs a = .error f2 := by unfold decStep; rw [hr]
      rw [hds] at hRk2
      have hff := rNumL_err hr
      have Hnum := Lib.hid hnum
      have HRk2 := Lib.hid hRk2
      clear hRk2 hnum hr hds
      go_wp2_with fail
      refine Hnum.out.mono ?_
      intro e w4 hpost
      rcases hpost with ⟨n, a2, h, -⟩ | ⟨f, hf, rfl, hrr4, hO4⟩
      · cases h
      have hf2 : f2 = f := by injection hf
      subst hf2
      have HFin := Lib.hid (show ∀ w', Below w4.heap.size w4 w' → DecPost w (decR R) (.returned (.tuple #[.slice none 0 0, .int .i64 f2])) w' from fun w' h => by rw [HRk2.out]; exact ⟨none, 0, rfl, Own.nil _ _ _ _, (HB3.out.trans (hO4.below (B := w.heap.size) (by omega) fun k hk e => by omega)).trans (h.mono (by have := hO4.size; omega))⟩)
      have hc2 := hrr4.c2
      have hgl4 := hrr4.blk.lt
      have hne : ¬ f2 = 0 := hff
      clear hf hO4 hrr4 Hnum
      unfold itemV
      go_wp2_with fail
      go_quiet (fail)
      go_wp2_with fail
      go_ret2
      exact HFin.out _ (below_drewN ((Below.refl _ _).alloc (Nat.le_refl _) _) _)
    | ok q =>
      obtain ⟨u, k⟩ := q
      rw [hr] at hnum
      have hlt := rNum_lt hr
      have Hnum := Lib.hid hnum
      have Hr := Lib.hid hr
      have HRk2 := Lib.hid hRk2
      clear hRk2 hnum hr
      go_wp2_with fail
      refine Hnum.out.mono ?_
      intro e w4 hpost
      rcases hpost with ⟨n, a2, h, rfl, hrr4, hO4⟩ | ⟨f, hf, -⟩
      rotate_left
      · cases hf
      obtain ⟨rfl, rfl⟩ : n = (u : Int) ∧ a2 = a + k := by injection h with h; injection h with h1 h2; exact ⟨h1.symm, h2.symm⟩
      have hz4 := hO4.size
      have Hrr4 := Lib.hid hrr4
      have Hown4 := Lib.hid (Own.only Hown3.out hO4 fun b o e h => by have := (Own.lt Hown3.out b o e).1; omega)
      have HB4 := Lib.hid (HB3.out.trans (hO4.below (B := w.heap.size) (by omega) fun k hk e => by omega))
      have hc2 := hrr4.c2
      have hgl4 := hrr4.blk.lt
      clear h hO4 hrr4 Hnum
      unfold itemV
      go_wp2_with fail
      obtain ⟨w5, hw5⟩ : ∃ w5, w5 = w4.alloc (.cells #[.int .i64 1, .int .i64 (u : Int), .slice none 0 0] 79) := ⟨_, rfl⟩
      rw [← hw5]
      have hb45 : Below w4.heap.size w4 w5 := by rw [hw5]; exact (Below.refl _ _).alloc (Nat.le_refl _) _
      have hI5 : Blk w5 w4.heap.size 79 #[.int .i64 1, .int .i64 (u : Int), .slice none 0 0] := by rw [hw5]; exact Blk.new _ _ _
      have hz5 := hI5.lt
      clear hw5
      refine (refOf_any (u : Int) w5).mono ?_
      intro e w6 hpost
      obtain ⟨rfl, hb56⟩ := hpost
      obtain ⟨rv, hrv⟩ : ∃ rv, rv = (rowAt shapeTab (u : Int)).1 := ⟨_, rfl⟩
      rw [← hrv, show (rowAt shapeTab (u : Int)).2 = isOp (u : Int) from rfl]
      have hz56 := hb56.size
      have hb46 : Below w4.heap.size w4 w6 := hb45.trans (hb56.mono (by omega))
      have HI6 := Lib.hid (hI5.below hb56 hz5)
      have Hrr6 := Lib.hid (Hrr4.out.below hb46)
      have Hown6 := Lib.hid (Own.below Hown4.out hb46 (Nat.le_refl _))
      have HB6 := Lib.hid (HB4.out.trans (hb46.mono (by omega)))
      have Hrv := Lib.hid hrv
      clear hb45 hI5 hb56 hb46 hrv hc2 Hrr3 Hown3 HB3 Hrr4 Hown4 HB4
      obtain ⟨nm, q1, q2, q3⟩ := rv
      cases hop : isOp (u : Int) with
      | false =>
        have hds : decStep bs a = .error 111 := by unfold decStep; rw [Hr.out]; dsimp only; rw [if_pos hop]
        have HFin := Lib.hid (show ∀ w', Below w6.heap.size w6 w' → DecPost w (decR R) (.returned (.tuple #[.slice none 0 0, .int .i64 111])) w' from fun w' h => by rw [HRk2.out, hds]; exact ⟨none, 0, rfl, Own.nil _ _ _ _, HB6.out.trans (h.mono (by omega))⟩)
        clear hds HRk2
        go_wp2_with fail
        go_ret2
        exact HFin.out _ ((Below.refl _ _).alloc (Nat.le_refl _) _)
      | true =>
        obtain ⟨nn, hnn, hn46, r, hr1, hr2, hkd, hk6⟩ := isOp_row hop
        rw [← Hrv.out] at hr2
        subst hr2
        obtain ⟨kd, hkde⟩ : ∃ kd, kd = kindN (u : Int) := ⟨_, rfl⟩
        rw [← hkde] at hkd hk6
        have Hkde := Lib.hid hkde
        clear hkde
        dsimp only at hkd
        subst hkd
        go_wp2_with (refine wpList_at 42 rfl ?_; refine wp_stop ?_)
        refine ⟨?_⟩
        obtain ⟨w7, hw7⟩ : ∃ w7, w7 = (w6.alloc (.cells #[.string ⟨nm.toArray⟩, .int .i64 (kd : Int), .int .i64 q2, .int .i64 q3] 56)).alloc (.cells #[.int .i64 0, .int .i64 0, .slice none 0 0] 79) := ⟨_, rfl⟩
        rw [← hw7]
        have hb67 : Below w6.heap.size w6 w7 := by rw [hw7]; exact ((Below.refl _ _).alloc (Nat.le_refl _) _).alloc (by simp) _
        have hX7 : Blk w7 w6.heap.size 56 #[.string ⟨nm.toArray⟩, .int .i64 (kd : Int), .int .i64 q2, .int .i64 q3] := by rw [hw7]; exact (Blk.new w6 _ _).alloc _
        have hI7 : Blk w7 (w6.heap.size + 1) 79 #[.int .i64 0, .int .i64 0, .slice none 0 0] := by
          rw [hw7]
          have h := Blk.new (w6.alloc (.cells #[.string ⟨nm.toArray⟩, .int .i64 (kd : Int), .int .i64 q2, .int .i64 q3] 56)) 79 #[.int .i64 0, .int .i64 0, .slice none 0 0]
          rw [World.size_alloc] at h
          exact h
        have hz7 : w6.heap.size + 2 ≤ w7.heap.size := by have := hI7.lt; omega
        have HX7 := Lib.hid hX7
        have HI7 := Lib.hid hI7
        have HU7 := Lib.hid (HI6.out.below hb67 (by omega))
        have Hrr7 := Lib.hid (Hrr6.out.below hb67)
        have Hown7 := Lib.hid (Own.below Hown6.out hb67 (Nat.le_refl _))
        have HB7 := Lib.hid (HB6.out.trans (hb67.mono (by omega)))
        have y1 : w7.cell? ⟨w6.heap.size, 1, none⟩ = some (.int .i64 (kd : Int)) := hX7.cell 1
        have hy7 := hX7.lt
        have hgz7 : g < w7.heap.size := by omega
        have hne1 : g ≠ w6.heap.size + 1 := by omega
        have hne2 : g ≠ w6.heap.size := by omega
        have hne3 : g ≠ w4.heap.size := by omega
        have hne4 : w4.heap.size ≠ w6.heap.size + 1 := by omega
        have hne5 : w6.heap.size ≠ w6.heap.size + 1 := by omega
        have hAx : bs ≠ [] → ∀ b o, A = some ⟨b, o, none⟩ → b ≠ w6.heap.size + 1 := fun hn b o e => by have := hlt0 hn b o e; omega
        have HAx := Lib.hid hAx
        have Hlt0 := Lib.hid hlt0
        clear hw7 hb67 hX7 hI7 HI6 Hrr6 Hown6 HB6 hlt0 hAx
        have hds : ∀ R', takeL kd bs (a + k) = R' → decStep bs a = match R' with | .error f => .error f | .ok (n, a2) => if mayB kd n = false then .error 112 else .ok (⟨(u : Int), n⟩, a2) := fun R' h => by
          unfold decStep; rw [Hr.out]; dsimp only; rw [if_neg (by rw [hop]; decide), ← Hkde.out, h]; cases R' <;> rfl
        have Hds := Lib.hid hds
        clear hds
        have hzg : w.heap.size ≤ w7.heap.size := by omega
        by_cases hk1 : kd = 1
        · subst hk1
          have htk := takeL_1 bs (a + k)
          have hrd := rfReadI_any g c (a + k) A bs w7 Hrr7.out hl
          rw [← htk] at hrd
          have Hrd := Lib.hid hrd
          clear htk hrd
          cases ht : takeL 1 bs (a + k) with
          | error f2 =>
            have hds := Hds.out _ ht
            rw [ht] at Hrd
            dsimp only at hds
            have hff := takeL_err ht
            have HRk3 : Hid (R = .error f2) := Lib.hid (by rw [HRk2.out, hds])
            clear hds Hds HRk2 ht
            go_wp2_with fail
            refine Hrd.out.mono ?_
            intro e w8 hpost
            rcases hpost with ⟨n, a2, h, -⟩ | ⟨f, hf, rfl, hrr8, hO8⟩
            · cases h
            have hf2 : f2 = f := by injection hf
            subst hf2
            have hz8 := hO8.size
            have hI8 := HI7.out.only hO8 (by omega)
            have i0 : w8.cell? ⟨w6.heap.size + 1, 0, none⟩ = some (.int .i64 0) := hI8.cell 0
            have i1 : w8.cell? ⟨w6.heap.size + 1, 1, none⟩ = some (.int .i64 0) := hI8.cell 1
            have i2 : w8.cell? ⟨w6.heap.size + 1, 2, none⟩ = some (.slice none 0 0) := hI8.cell 2
            have if0 := hI8.frozen 0
            have if1 := hI8.frozen 1
            have if2 := hI8.frozen 2
            have hil := hI8.lt
            have hc2 := hrr8.c2
            have hgl8 := hrr8.blk.lt
            have hne : ¬ f2 = 0 := hff
            have HFin := Lib.hid (show ∀ w', Only (fun b => b = w6.heap.size + 1) w8 w' → DecPost w (decR R) (.returned (.tuple #[.slice none 0 0, .int .i64 f2])) w' from fun w' h => by rw [HRk3.out]; exact ⟨none, 0, rfl, Own.nil _ _ _ _, (HB7.out.trans (hO8.below (B := w.heap.size) (by omega) fun k hk e => by omega)).trans (h.below (by omega) fun k hk e => by omega)⟩)
            clear hf hO8 hrr8 Hrd hI8
            unfold itemV
            go_wp2_with fail
            go_quiet (fail)
            go_wp2_with fail
            go_ret2
            exact HFin.out _ (((((Only.refl (fun b => b = w6.heap.size + 1) w8).setCell (p := ⟨w6.heap.size + 1, 0, none⟩) (.inl rfl) _).setCell (p := ⟨w6.heap.size + 1, 1, none⟩) (.inl rfl) _).setCell (p := ⟨w6.heap.size + 1, 2, none⟩) (.inl rfl) _).drewN _)
          | ok q =>
            obtain ⟨n, a2⟩ := q
            have hds := Hds.out _ ht
            rw [ht] at Hrd
            dsimp only at hds
            have hge := takeL_ge ht
            clear Hds ht
            go_wp2_with fail
            refine Hrd.out.mono ?_
            intro e w8 hpost
            rcases hpost with ⟨n2, a3, h, rfl, hrr8, hO8⟩ | ⟨f, hf, -⟩
            rotate_left
            · cases hf
            obtain ⟨rfl, rfl⟩ : n = n2 ∧ a2 = a3 := by injection h with h; injection h with h1 h2; exact ⟨h1, h2⟩
            have hz8 := hO8.size
            have hI8 := HI7.out.only hO8 (by omega)
            have i0 : w8.cell? ⟨w6.heap.size + 1, 0, none⟩ = some (.int .i64 0) := hI8.cell 0
            have i1 : w8.cell? ⟨w6.heap.size + 1, 1, none⟩ = some (.int .i64 0) := hI8.cell 1
            have i2 : w8.cell? ⟨w6.heap.size + 1, 2, none⟩ = some (.slice none 0 0) := hI8.cell 2
            have if0 := hI8.frozen 0
            have if1 := hI8.frozen 1
            have if2 := hI8.frozen 2
            have hil := hI8.lt
            have hc2 := hrr8.c2
            have hgl8 := hrr8.blk.lt
            have y1' : w8.cell? ⟨w6.heap.size, 1, none⟩ = some (.int .i64 ((1 : Nat) : Int)) := by rw [(ocell hO8).1 _ _ hy7 (by omega)]; exact y1
            have hy8 : w6.heap.size < w8.heap.size := by omega
            have HU8 := Lib.hid (HU7.out.only hO8 (by omega))
            have Hown8 := Lib.hid (Own.only Hown7.out hO8 fun b o e h => by have := (Own.lt Hown7.out b o e).1; omega)
            have HB8 := Lib.hid (HB7.out.trans (hO8.below (B := w.heap.size) (by omega) fun k hk e => by omega))
            have Hrr8 := Lib.hid hrr8
            have HI8 := Lib.hid hI8
            clear h hO8 hrr8 Hrd hI8 Hown7 HU7 HB7 y1 Hrr7 HI7 HX7
            unfold itemV
            go_wp2_with fail
            obtain ⟨w9, hw9⟩ : ∃ w9, w9 = ((w8.setCell ⟨w6.heap.size + 1, 0, none⟩ (.int .i64 2)).setCell ⟨w6.heap.size + 1, 1, none⟩ (.int .i64 n)).setCell ⟨w6.heap.size + 1, 2, none⟩ (.slice none 0 0) := ⟨_, rfl⟩
            rw [← hw9]
            have hO9 : Only (fun b => b = w6.heap.size + 1) w8 w9 := by rw [hw9]; exact (((Only.refl (fun b => b = w6.heap.size + 1) w8).setCell (p := ⟨w6.heap.size + 1, 0, none⟩) (.inl rfl) _).setCell (p := ⟨w6.heap.size + 1, 1, none⟩) (.inl rfl) _).setCell (p := ⟨w6.heap.size + 1, 2, none⟩) (.inl rfl) _
            have hI9 : Blk w9 (w6.heap.size + 1) 79 #[.int .i64 2, .int .i64 n, .slice none 0 0] := by rw [hw9]; exact ((HI8.out.set_ 0 _).set_ 1 _).set_ 2 _
            have hz9 := hO9.size
            have j1 : w9.cell? ⟨w6.heap.size + 1, 1, none⟩ = some (.int .i64 n) := hI9.cell 1
            have hjl := hI9.lt
            have HU9 := Lib.hid (HU8.out.only hO9 (by omega))
            have u1 : w9.cell? ⟨w4.heap.size, 1, none⟩ = some (.int .i64 (u : Int)) := HU9.out.cell 1
            have hul := HU9.out.lt
            have Hown9 := Lib.hid (Own.only Hown8.out hO9 fun b o e h => by have := hob b (by rw [e]; rfl); omega)
            have HB9 := Lib.hid (HB8.out.trans (hO9.below (B := w.heap.size) (by omega) fun k hk e => by omega))
            have Hrr9 := Lib.hid (Hrr8.out.only hO9 (by omega) fun hn b o e => HAx.out hn b o e)
            clear hw9 hO9 hI9 i0 i1 i2 if0 if1 if2 hc2 y1' HU8 Hown8 HB8 Hrr8 HI8
            cases hmb : mayB 1 n with
            | false =>
              rw [if_pos hmb] at hds
              have HFin := Lib.hid (show DecPost w (decR R) (.returned (.tuple #[.slice none 0 0, .int .i64 112])) w9 from by rw [HRk2.out, hds]; exact ⟨none, 0, rfl, Own.nil _ _ _ _, HB9.out⟩)
              have hmay := refMay_any 1 n w9 hk6
              rw [hmb] at hmay
              have Hmay := Lib.hid hmay
              clear hds HRk2 hmay hmb
              refine Hmay.out.mono ?_
              rintro e w10 ⟨rfl, rfl⟩
              go_wp2_with fail
              go_ret2
              exact HFin.out
            | true =>
              rw [if_neg (by rw [hmb]; decide)] at hds
              have HRn : Hid (R = decFrom bs n' (l ++ [⟨(u : Int), n⟩]) a2) := Lib.hid (by rw [HRk2.out, hds])
              have hmay := refMay_any 1 n w9 hk6
              rw [hmb] at hmay
              have Hmay := Lib.hid hmay
              clear hds HRk2 hmay hmb
              refine Hmay.out.mono ?_
              rintro e w10 ⟨rfl, rfl⟩
              go_wp2_with (refine wpList_at 74 rfl ?_; refine wp_stop ?_)
              refine ⟨?_⟩
              obtain ⟨w11, hw11⟩ : ∃ w11, w11 = w10.alloc (.cells #[.int .i64 (u : Int), .int .i64 n] 48) := ⟨_, rfl⟩
              rw [← hw11]
              have hb911 : Below w10.heap.size w10 w11 := by rw [hw11]; exact (Below.refl _ _).alloc (Nat.le_refl _) _
              have hU11 : Blk w11 w10.heap.size 48 #[.int .i64 (u : Int), .int .i64 n] := by rw [hw11]; exact Blk.new _ _ _
              have hown11 := Own.below Hown9.out hb911 (Nat.le_refl _)
              have hz911 := hb911.size
              clear hw11
              refine wpList_app rfl (.tmp 67) (.tmp 73) eIns rfl rfl hown11 (m := 1) (us := [.int .i64 (u : Int), .int .i64 n]) rfl (RV.of_blk hU11) rfl (by intro v hv; simp only [List.mem_cons, List.not_mem_nil, or_false] at hv; rcases hv with rfl | rfl <;> rfl) (by unfold maxLen; omega) (by omega) (by omega) (by intro h; cases h) ?_
              intro AD cD w12 hown12 hg12 hAD
              have hO1112 : Only (fun b => some b = A'.map (·.block)) w11 w12 := Only.of_grown (S := fun b => some b = A'.map (·.block)) hg12 fun k e => e.symm
              have hz12 := hO1112.size
              have hrr12 := (Hrr9.out.below hb911).only hO1112 (fun h => by have := hob _ h.symm; omega) (fun hn b o e h => by have := hob _ h.symm; have := Hlt0.out hn b o e; omega)
              have HB12 := Lib.hid ((HB9.out.trans (hb911.mono (by omega))).grown hg12 (by omega) fun q hq => by have := hob _ hq; omega)
              have hat12 : atR w12 g = a2 := by unfold atR; rw [hrr12.c1]; exact Int.toNat_natCast _
              have hown12' : Own w12 w1.heap.size 48 2 AD (l ++ [⟨(u : Int), n⟩] : List Ins).length cD ((l ++ [⟨(u : Int), n⟩] : List Ins).flatMap insCells) := by
                rw [List.length_append, List.flatMap_append]
                exact hown12
              have Hrr12 := Lib.hid hrr12
              have Hown12 := Lib.hid hown12'
              clear hrr12 hown12 hown12' hO1112 hg12 hown11 hU11 hb911 hAD
              go_wp2_with fail
              exact ⟨⟨l ++ [⟨(u : Int), n⟩], a2, n', AD, cD, by rw [List.length_append]; rfl, Hrr12.out, Hown12.out, by rw [List.length_append]; simp; omega, by omega, HRn, HB12.out, by omega⟩, by rw [hat12, hat]; omega⟩

        by_cases hk0 : kd = 0
        · subst hk0
          have hds := Hds.out (.ok (0, a + k)) rfl
          dsimp only at hds
          clear Hds
          have hge : a + k ≤ a + k := Nat.le_refl _
          have j1 : w7.cell? ⟨w6.heap.size + 1, 1, none⟩ = some (.int .i64 0) := HI7.out.cell 1
          have hjl := HI7.out.lt
          have hc2 := Hrr7.out.c2
          have hz9 := Nat.le_refl w7.heap.size
          have HU9 := HU7
          have u1 : w7.cell? ⟨w4.heap.size, 1, none⟩ = some (.int .i64 (u : Int)) := HU9.out.cell 1
          have hul := HU9.out.lt
          have Hown9 := Hown7
          have HB9 := HB7
          have Hrr9 := Hrr7
          clear Hown7 HU7 HB7 Hrr7 HX7 HI7
          go_wp2_with fail
          cases hmb : mayB 0 0 with
          | false =>
            rw [if_pos hmb] at hds
            have HFin := Lib.hid (show DecPost w (decR R) (.returned (.tuple #[.slice none 0 0, .int .i64 112])) w7 from by rw [HRk2.out, hds]; exact ⟨none, 0, rfl, Own.nil _ _ _ _, HB9.out⟩)
            have hmay := refMay_any 0 0 w7 hk6
            rw [hmb] at hmay
            have Hmay := Lib.hid hmay
            clear hds HRk2 hmay hmb
            refine Hmay.out.mono ?_
            rintro e w10 ⟨rfl, rfl⟩
            go_wp2_with fail
            go_ret2
            exact HFin.out
          | true =>
            rw [if_neg (by rw [hmb]; decide)] at hds
            have HRn : Hid (R = decFrom bs n' (l ++ [⟨(u : Int), 0⟩]) (a + k)) := Lib.hid (by rw [HRk2.out, hds])
            have hmay := refMay_any 0 0 w7 hk6
            rw [hmb] at hmay
            have Hmay := Lib.hid hmay
            clear hds HRk2 hmay hmb
            refine Hmay.out.mono ?_
            rintro e w10 ⟨rfl, rfl⟩
            go_wp2_with (refine wpList_at 74 rfl ?_; refine wp_stop ?_)
            refine ⟨?_⟩
            obtain ⟨w11, hw11⟩ : ∃ w11, w11 = w10.alloc (.cells #[.int .i64 (u : Int), .int .i64 0] 48) := ⟨_, rfl⟩
            rw [← hw11]
            have hb911 : Below w10.heap.size w10 w11 := by rw [hw11]; exact (Below.refl _ _).alloc (Nat.le_refl _) _
            have hU11 : Blk w11 w10.heap.size 48 #[.int .i64 (u : Int), .int .i64 0] := by rw [hw11]; exact Blk.new _ _ _
            have hown11 := Own.below Hown9.out hb911 (Nat.le_refl _)
            have hz911 := hb911.size
            clear hw11
            refine wpList_app rfl (.tmp 67) (.tmp 73) eIns rfl rfl hown11 (m := 1) (us := [.int .i64 (u : Int), .int .i64 0]) rfl (RV.of_blk hU11) rfl (by intro v hv; simp only [List.mem_cons, List.not_mem_nil, or_false] at hv; rcases hv with rfl | rfl <;> rfl) (by unfold maxLen; omega) (by omega) (by omega) (by intro h; cases h) ?_
            intro AD cD w12 hown12 hg12 hAD
            have hO1112 : Only (fun b => some b = A'.map (·.block)) w11 w12 := Only.of_grown (S := fun b => some b = A'.map (·.block)) hg12 fun k e => e.symm
            have hz12 := hO1112.size
            have hrr12 := (Hrr9.out.below hb911).only hO1112 (fun h => by have := hob _ h.symm; omega) (fun hn b o e h => by have := hob _ h.symm; have := Hlt0.out hn b o e; omega)
            have HB12 := Lib.hid ((HB9.out.trans (hb911.mono (by omega))).grown hg12 (by omega) fun q hq => by have := hob _ hq; omega)
            have hat12 : atR w12 g = (a + k) := by unfold atR; rw [hrr12.c1]; exact Int.toNat_natCast _
            have hown12' : Own w12 w1.heap.size 48 2 AD (l ++ [⟨(u : Int), 0⟩] : List Ins).length cD ((l ++ [⟨(u : Int), 0⟩] : List Ins).flatMap insCells) := by
              rw [List.length_append, List.flatMap_append]
              exact hown12
            have Hrr12 := Lib.hid hrr12
            have Hown12 := Lib.hid hown12'
            clear hrr12 hown12 hown12' hO1112 hg12 hown11 hU11 hb911 hAD
            go_wp2_with fail
            exact ⟨⟨l ++ [⟨(u : Int), 0⟩], (a + k), n', AD, cD, by rw [List.length_append]; rfl, Hrr12.out, Hown12.out, by rw [List.length_append]; simp; omega, by omega, HRn, HB12.out, by omega⟩, by rw [hat12, hat]; omega⟩

        · have g3 : ¬ (kd : Int) = 1 := by omega
          have g4 : ¬ (kd : Int) = 0 := by omega
          have htk := takeL_n kd hk0 hk1 bs (a + k)
          have hrd := rfReadN_any g c (a + k) A bs w7 Hrr7.out hl
          rw [← htk] at hrd
          have Hrd := Lib.hid hrd
          clear htk hrd
          cases ht : takeL kd bs (a + k) with
          | error f2 =>
            have hds := Hds.out _ ht
            rw [ht] at Hrd
            dsimp only at hds
            have hff := takeL_err ht
            have HRk3 : Hid (R = .error f2) := Lib.hid (by rw [HRk2.out, hds])
            clear hds Hds HRk2 ht
            go_wp2_with fail
            refine Hrd.out.mono ?_
            intro e w8 hpost
            rcases hpost with ⟨n, a2, h, -⟩ | ⟨f, hf, rfl, hrr8, hO8⟩
            · cases h
            have hf2 : f2 = f := by injection hf
            subst hf2
            have hz8 := hO8.size
            have hI8 := HI7.out.only hO8 (by omega)
            have i0 : w8.cell? ⟨w6.heap.size + 1, 0, none⟩ = some (.int .i64 0) := hI8.cell 0
            have i1 : w8.cell? ⟨w6.heap.size + 1, 1, none⟩ = some (.int .i64 0) := hI8.cell 1
            have i2 : w8.cell? ⟨w6.heap.size + 1, 2, none⟩ = some (.slice none 0 0) := hI8.cell 2
            have if0 := hI8.frozen 0
            have if1 := hI8.frozen 1
            have if2 := hI8.frozen 2
            have hil := hI8.lt
            have hc2 := hrr8.c2
            have hgl8 := hrr8.blk.lt
            have hne : ¬ f2 = 0 := hff
            have HFin := Lib.hid (show ∀ w', Only (fun b => b = w6.heap.size + 1) w8 w' → DecPost w (decR R) (.returned (.tuple #[.slice none 0 0, .int .i64 f2])) w' from fun w' h => by rw [HRk3.out]; exact ⟨none, 0, rfl, Own.nil _ _ _ _, (HB7.out.trans (hO8.below (B := w.heap.size) (by omega) fun k hk e => by omega)).trans (h.below (by omega) fun k hk e => by omega)⟩)
            clear hf hO8 hrr8 Hrd hI8
            unfold itemV
            go_wp2_with fail
            go_quiet (fail)
            go_wp2_with fail
            go_ret2
            exact HFin.out _ (((((Only.refl (fun b => b = w6.heap.size + 1) w8).setCell (p := ⟨w6.heap.size + 1, 0, none⟩) (.inl rfl) _).setCell (p := ⟨w6.heap.size + 1, 1, none⟩) (.inl rfl) _).setCell (p := ⟨w6.heap.size + 1, 2, none⟩) (.inl rfl) _).drewN _)
          | ok q =>
            obtain ⟨n, a2⟩ := q
            have hds := Hds.out _ ht
            rw [ht] at Hrd
            dsimp only at hds
            have hge := takeL_ge ht
            clear Hds ht
            go_wp2_with fail
            refine Hrd.out.mono ?_
            intro e w8 hpost
            rcases hpost with ⟨n2, a3, h, rfl, hrr8, hO8⟩ | ⟨f, hf, -⟩
            rotate_left
            · cases hf
            obtain ⟨rfl, rfl⟩ : n = n2 ∧ a2 = a3 := by injection h with h; injection h with h1 h2; exact ⟨h1, h2⟩
            have hz8 := hO8.size
            have hI8 := HI7.out.only hO8 (by omega)
            have i0 : w8.cell? ⟨w6.heap.size + 1, 0, none⟩ = some (.int .i64 0) := hI8.cell 0
            have i1 : w8.cell? ⟨w6.heap.size + 1, 1, none⟩ = some (.int .i64 0) := hI8.cell 1
            have i2 : w8.cell? ⟨w6.heap.size + 1, 2, none⟩ = some (.slice none 0 0) := hI8.cell 2
            have if0 := hI8.frozen 0
            have if1 := hI8.frozen 1
            have if2 := hI8.frozen 2
            have hil := hI8.lt
            have hc2 := hrr8.c2
            have hgl8 := hrr8.blk.lt
            have y1' : w8.cell? ⟨w6.heap.size, 1, none⟩ = some (.int .i64 ((kd : Nat) : Int)) := by rw [(ocell hO8).1 _ _ hy7 (by omega)]; exact y1
            have hy8 : w6.heap.size < w8.heap.size := by omega
            have HU8 := Lib.hid (HU7.out.only hO8 (by omega))
            have Hown8 := Lib.hid (Own.only Hown7.out hO8 fun b o e h => by have := (Own.lt Hown7.out b o e).1; omega)
            have HB8 := Lib.hid (HB7.out.trans (hO8.below (B := w.heap.size) (by omega) fun k hk e => by omega))
            have Hrr8 := Lib.hid hrr8
            have HI8 := Lib.hid hI8
            clear h hO8 hrr8 Hrd hI8 Hown7 HU7 HB7 y1 Hrr7 HI7 HX7
            unfold itemV
            go_wp2_with fail
            obtain ⟨w9, hw9⟩ : ∃ w9, w9 = ((w8.setCell ⟨w6.heap.size + 1, 0, none⟩ (.int .i64 1)).setCell ⟨w6.heap.size + 1, 1, none⟩ (.int .i64 n)).setCell ⟨w6.heap.size + 1, 2, none⟩ (.slice none 0 0) := ⟨_, rfl⟩
            rw [← hw9]
            have hO9 : Only (fun b => b = w6.heap.size + 1) w8 w9 := by rw [hw9]; exact (((Only.refl (fun b => b = w6.heap.size + 1) w8).setCell (p := ⟨w6.heap.size + 1, 0, none⟩) (.inl rfl) _).setCell (p := ⟨w6.heap.size + 1, 1, none⟩) (.inl rfl) _).setCell (p := ⟨w6.heap.size + 1, 2, none⟩) (.inl rfl) _
            have hI9 : Blk w9 (w6.heap.size + 1) 79 #[.int .i64 1, .int .i64 n, .slice none 0 0] := by rw [hw9]; exact ((HI8.out.set_ 0 _).set_ 1 _).set_ 2 _
            have hz9 := hO9.size
            have j1 : w9.cell? ⟨w6.heap.size + 1, 1, none⟩ = some (.int .i64 n) := hI9.cell 1
            have hjl := hI9.lt
            have HU9 := Lib.hid (HU8.out.only hO9 (by omega))
            have u1 : w9.cell? ⟨w4.heap.size, 1, none⟩ = some (.int .i64 (u : Int)) := HU9.out.cell 1
            have hul := HU9.out.lt
            have Hown9 := Lib.hid (Own.only Hown8.out hO9 fun b o e h => by have := hob b (by rw [e]; rfl); omega)
            have HB9 := Lib.hid (HB8.out.trans (hO9.below (B := w.heap.size) (by omega) fun k hk e => by omega))
            have Hrr9 := Lib.hid (Hrr8.out.only hO9 (by omega) fun hn b o e => HAx.out hn b o e)
            clear hw9 hO9 hI9 i0 i1 i2 if0 if1 if2 hc2 y1' HU8 Hown8 HB8 Hrr8 HI8
            cases hmb : mayB kd n with
            | false =>
              rw [if_pos hmb] at hds
              have HFin := Lib.hid (show DecPost w (decR R) (.returned (.tuple #[.slice none 0 0, .int .i64 112])) w9 from by rw [HRk2.out, hds]; exact ⟨none, 0, rfl, Own.nil _ _ _ _, HB9.out⟩)
              have hmay := refMay_any kd n w9 hk6
              rw [hmb] at hmay
              have Hmay := Lib.hid hmay
              clear hds HRk2 hmay hmb
              refine Hmay.out.mono ?_
              rintro e w10 ⟨rfl, rfl⟩
              go_wp2_with fail
              go_ret2
              exact HFin.out
            | true =>
              rw [if_neg (by rw [hmb]; decide)] at hds
              have HRn : Hid (R = decFrom bs n' (l ++ [⟨(u : Int), n⟩]) a2) := Lib.hid (by rw [HRk2.out, hds])
              have hmay := refMay_any kd n w9 hk6
              rw [hmb] at hmay
              have Hmay := Lib.hid hmay
              clear hds HRk2 hmay hmb
              refine Hmay.out.mono ?_
              rintro e w10 ⟨rfl, rfl⟩
              go_wp2_with (refine wpList_at 74 rfl ?_; refine wp_stop ?_)
              refine ⟨?_⟩
              obtain ⟨w11, hw11⟩ : ∃ w11, w11 = w10.alloc (.cells #[.int .i64 (u : Int), .int .i64 n] 48) := ⟨_, rfl⟩
              rw [← hw11]
              have hb911 : Below w10.heap.size w10 w11 := by rw [hw11]; exact (Below.refl _ _).alloc (Nat.le_refl _) _
              have hU11 : Blk w11 w10.heap.size 48 #[.int .i64 (u : Int), .int .i64 n] := by rw [hw11]; exact Blk.new _ _ _
              have hown11 := Own.below Hown9.out hb911 (Nat.le_refl _)
              have hz911 := hb911.size
              clear hw11
              refine wpList_app rfl (.tmp 67) (.tmp 73) eIns rfl rfl hown11 (m := 1) (us := [.int .i64 (u : Int), .int .i64 n]) rfl (RV.of_blk hU11) rfl (by intro v hv; simp only [List.mem_cons, List.not_mem_nil, or_false] at hv; rcases hv with rfl | rfl <;> rfl) (by unfold maxLen; omega) (by omega) (by omega) (by intro h; cases h) ?_
              intro AD cD w12 hown12 hg12 hAD
              have hO1112 : Only (fun b => some b = A'.map (·.block)) w11 w12 := Only.of_grown (S := fun b => some b = A'.map (·.block)) hg12 fun k e => e.symm
              have hz12 := hO1112.size
              have hrr12 := (Hrr9.out.below hb911).only hO1112 (fun h => by have := hob _ h.symm; omega) (fun hn b o e h => by have := hob _ h.symm; have := Hlt0.out hn b o e; omega)
              have HB12 := Lib.hid ((HB9.out.trans (hb911.mono (by omega))).grown hg12 (by omega) fun q hq => by have := hob _ hq; omega)
              have hat12 : atR w12 g = a2 := by unfold atR; rw [hrr12.c1]; exact Int.toNat_natCast _
              have hown12' : Own w12 w1.heap.size 48 2 AD (l ++ [⟨(u : Int), n⟩] : List Ins).length cD ((l ++ [⟨(u : Int), n⟩] : List Ins).flatMap insCells) := by
                rw [List.length_append, List.flatMap_append]
                exact hown12
              have Hrr12 := Lib.hid hrr12
              have Hown12 := Lib.hid hown12'
              clear hrr12 hown12 hown12' hO1112 hg12 hown11 hU11 hb911 hAD
              go_wp2_with fail
              exact ⟨⟨l ++ [⟨(u : Int), n⟩], a2, n', AD, cD, by rw [List.length_append]; rfl, Hrr12.out, Hown12.out, by rw [List.length_append]; simp; omega, by omega, HRn, HB12.out, by omega⟩, by rw [hat12, hat]; omega⟩

    
end Go.Proofs.Ytmmdkpnoncnjnaa
