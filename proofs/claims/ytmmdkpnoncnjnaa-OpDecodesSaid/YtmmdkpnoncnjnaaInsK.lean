/- Rows of instructions: a block of them, Same, Lend, Kept. -/
import Derived.Test.YtmmdkpnoncnjnaaOpEnc
import Derived.Test.YtmmdkpnoncnjnaaOpDec
import Derived.Test.YtmmdkpnoncnjnaaCopyN
import Derived.Deep.QuietTactic
import Derived.BigQuiet
namespace Go.Proofs.Ytmmdkpnoncnjnaa
open Go.RowKit

theorem insCells_set : ∀ (ls : List Ins) (i : Nat) (x : Ins), i < ls.length → ((ls.flatMap insCells).set (i * 2) (.int .i64 x.op)).set (i * 2 + 1) (.int .i64 x.a) = (ls.set i x).flatMap insCells := by
  intro ls
  induction ls with
  | nil => intro i x h; cases h
  | cons y ls ih =>
    intro i x h
    cases i with
    | zero => rfl
    | succ i =>
      rw [List.set_cons_succ, List.flatMap_cons, List.flatMap_cons, ← ih i x (by simpa using h), show (i + 1) * 2 = i * 2 + 2 from by omega]
      rfl
abbrev BlkI (w : World) (g : Nat) (ls : List Ins) : Prop := Blk w g 48 (ls.flatMap insCells).toArray
theorem BlkI.put {w : World} {g : Nat} {ls : List Ins} (h : BlkI w g ls) (i : Nat) (hi : i < ls.length) (x : Ins) : BlkI ((w.setCell ⟨g, i * 2, none⟩ (.int .i64 x.op)).setCell ⟨g, i * 2 + 1, none⟩ (.int .i64 x.a)) g (ls.set i x) := by
  have h1 := (Blk.setL h (i * 2) (.int .i64 x.op)).setL (i * 2 + 1) (.int .i64 x.a)
  rwa [insCells_set ls i x hi] at h1
theorem BlkI.at_ {w : World} {g : Nat} {ls : List Ins} (h : BlkI w g ls) (i : Nat) (hi : i < ls.length) : w.cell? ⟨g, i * 2, none⟩ = some (.int .i64 (ls[i]).op) ∧ w.cell? ⟨g, i * 2 + 1, none⟩ = some (.int .i64 (ls[i]).a) := by
  have h0 := insCells_get ls i 0 hi (by omega)
  have h1 := insCells_get ls i 1 hi (by omega)
  exact ⟨by rw [Blk.at_ h]; exact h0, by rw [Blk.at_ h]; exact h1⟩
theorem BlkI.rv {w : World} {g : Nat} {ls : List Ins} (h : BlkI w g ls) (n : Nat) (hn : n ≤ ls.length) : RV w (some ⟨g, 0, none⟩) ((ls.take n).flatMap insCells) := by
  have h1 : RV w (some ⟨g, 0, none⟩) (ls.flatMap insCells) := by simpa using RV.of_blk h
  have h2 := h1.cut 0 (n * 2)
  rw [Nat.add_zero, List.drop_zero] at h2
  have e : (ls.flatMap insCells).take (n * 2) = (ls.take n).flatMap insCells := by
    conv => lhs; rw [← List.take_append_drop n ls, List.flatMap_append]
    rw [List.take_append_of_le_length (by rw [insCells_len, List.length_take]; omega), List.take_of_length_le (by rw [insCells_len, List.length_take]; omega)]
  rwa [e] at h2
/-- Are they the same? -/
def sameB : List Ins → List Ins → Bool
  | [], [] => true
  | x :: xs, y :: ys => (x.op == y.op && x.a == y.a) && sameB xs ys
  | _, _ => false
theorem sameB_iff : ∀ xs ys : List Ins, sameB xs ys = true ↔ xs = ys := by
  intro xs
  induction xs with
  | nil => intro ys; cases ys <;> simp [sameB]
  | cons x xs ih =>
    intro ys
    cases ys with
    | nil => simp [sameB]
    | cons y ys =>
      obtain ⟨o1, a1⟩ := x
      obtain ⟨o2, a2⟩ := y
      simp only [sameB, Bool.and_eq_true, beq_iff_eq, ih, List.cons.injEq, Ins.mk.injEq]
theorem sameB_self (xs : List Ins) : sameB xs xs = true := (sameB_iff xs xs).2 rfl
theorem sameB_len : ∀ xs ys : List Ins, xs.length ≠ ys.length → sameB xs ys = false := by
  intro xs ys h
  cases hs : sameB xs ys with
  | false => rfl
  | true => exact absurd (congrArg List.length ((sameB_iff xs ys).1 hs)) h
set_option maxRecDepth 100000 in
theorem same_ins (A A' : Option Addr) (c c' : Nat) (xs ys : List Ins) (w : World) (h : RV w A (xs.flatMap insCells)) (h' : RV w A' (ys.flatMap insCells)) (hl : xs.length ≤ 9223372036854775807) (_hl' : ys.length ≤ 9223372036854775807) :
    Calls Try.prog 24 #[.slice A xs.length c, .slice A' ys.length c'] w fun e w' => e = .returned (.bool (sameB xs ys)) ∧ ∃ n, w' = w.drewN n := by
  have H := Lib.hid h
  have H' := Lib.hid h'
  clear h h'
  obtain ⟨R, hR⟩ : ∃ R, R = sameB xs ys := ⟨_, rfl⟩
  rw [← hR]
  have HR := Lib.hid hR
  clear hR
  by_cases hn : xs.length = ys.length
  · have Hn := Lib.hid hn
    rw [← hn]
    clear hn
    go_enter Try.func24, Try.ntmps24
    go_wp2_with fail
    go_loopw [5] (fun i wr => ∃ (k m : Nat), k ≤ xs.length ∧ i = .int .i64 k ∧ Hid (R = sameB (xs.drop k) (ys.drop k)) ∧ wr = w.drewN m) (fun i _ => xs.length - (intOf i).toNat)
    case atStart => exact ⟨0, 0, Nat.zero_le _, rfl, HR, rfl⟩
    case round =>
      rename World => wr
      obtain ⟨k, m, hk, rfl, hRk, rfl⟩ := hrel
      by_cases hlt : k < xs.length
      · have g1 : (k : Int) < (xs.length : Int) := by omega
        have hlt' : k < ys.length := by rw [← Hn.out]; exact hlt
        obtain ⟨b, off, rfl, hb, hc⟩ := H.out.at_ (by rw [insCells_len]; omega)
        obtain ⟨b', off', rfl, hb', hc'⟩ := H'.out.at_ (by rw [insCells_len]; omega)
        have p0 := hc _ _ (insCells_get xs k 0 hlt (by omega))
        have p1 := hc _ _ (insCells_get xs k 1 hlt (by omega))
        have q0 := hc' _ _ (insCells_get ys k 0 hlt' (by omega))
        have q1 := hc' _ _ (insCells_get ys k 1 hlt' (by omega))
        have hdx : xs.drop k = xs[k] :: xs.drop (k + 1) := List.drop_eq_getElem_cons hlt
        have hdy : ys.drop k = ys[k] :: ys.drop (k + 1) := List.drop_eq_getElem_cons hlt'
        rw [hdx, hdy] at hRk
        generalize xs[k] = x at *
        generalize ys[k] = y at *
        rw [← Nat.add_assoc] at p1 q1
        replace p0 : w.cell? ⟨b, off + k * 2, none⟩ = some (.int .i64 x.op) := p0
        replace p1 : w.cell? ⟨b, off + k * 2 + 1, none⟩ = some (.int .i64 x.a) := p1
        replace q0 : w.cell? ⟨b', off' + k * 2, none⟩ = some (.int .i64 y.op) := q0
        replace q1 : w.cell? ⟨b', off' + k * 2 + 1, none⟩ = some (.int .i64 y.a) := q1
        clear hc hc' hdx hdy
        by_cases h1 : x.op = y.op ∧ x.a = y.a
        · have hRn : Hid (R = sameB (xs.drop (k + 1)) (ys.drop (k + 1))) := by
            have e := hRk.out
            unfold sameB at e
            rw [h1.1, h1.2] at e
            exact Lib.hid (by simpa using e)
          obtain ⟨e1, e2⟩ := h1
          rw [← e1] at q0
          rw [← e2] at q1
          clear e1 e2 hRk
          go_wp2_with fail
          go_quiet (fail)
          go_wp2_with fail
          exact ⟨⟨k + 1, _, by omega, by go_num, hRn, rfl⟩, by simp [intOf]; omega⟩
        · have hRf : R = false := by
            rw [hRk.out]
            unfold sameB
            have : (x.op == y.op && x.a == y.a) = false := by
              cases hq : (x.op == y.op && x.a == y.a) with
              | false => rfl
              | true => simp only [Bool.and_eq_true, beq_iff_eq] at hq; exact absurd hq h1
            rw [this]
            rfl
          have HRf := Lib.hid hRf
          clear hRf hRk
          by_cases h2 : x.op = y.op
          · have h3 : (x.a == y.a) = false := by
              cases hq : (x.a == y.a) with
              | false => rfl
              | true => exact absurd ⟨h2, by simpa using hq⟩ h1
            rw [← h2] at q0
            clear h1 h2
            go_wp2_with fail
            go_quiet (fail)
            go_wp2_with fail
            go_ret
            exact ⟨by rw [HRf.out]; rfl, _, World.drewN_drewN ..⟩
          · have h3 : (x.op == y.op) = false := by simpa using h2
            clear h1 h2
            go_wp2_with fail
            go_quiet (fail)
            go_wp2_with fail
            go_ret
            exact ⟨by rw [HRf.out]; rfl, _, World.drewN_drewN ..⟩
      · have hRt : R = true := by rw [hRk.out, List.drop_eq_nil_of_le (by omega), List.drop_eq_nil_of_le (by rw [← Hn.out]; omega)]; rfl
        have HRt := Lib.hid hRt
        clear hRt hRk
        go_wp2_with fail
        go_ret
        exact ⟨by rw [HRt.out]; rfl, m, rfl⟩
  · have hRf : R = false := by rw [HR.out]; exact sameB_len _ _ hn
    have HRf := Lib.hid hRf
    have g1 : ¬ (xs.length : Int) = (ys.length : Int) := by omega
    clear hRf hn
    go_enter Try.func24, Try.ntmps24
    go_wp2_with fail
    go_ret
    exact ⟨by rw [HRf.out]; rfl, 0, rfl⟩
end Go.Proofs.Ytmmdkpnoncnjnaa
