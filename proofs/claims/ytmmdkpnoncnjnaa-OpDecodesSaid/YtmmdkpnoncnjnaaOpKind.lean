/- An operand's kind: its functions in the row, and their contracts. -/
import Derived.Test.YtmmdkpnoncnjnaaOpEncL
import Derived.Test.YtmmdkpnoncnjnaaPut
namespace Go.Proofs.Ytmmdkpnoncnjnaa
open Go.RowKit

theorem putL_room {xs ys : List UInt8} (h : xs.length + ys.length ≤ 4194304) : putL xs 0 ys = (xs ++ ys, 0) := by
  unfold putL
  rw [if_pos rfl, if_pos h]
theorem formL_le9 (u : Nat) : (formL u).length ≤ 9 := formL_le u
/-- What is taken for an operand of a kind. -/
def takeL (kd : Nat) (bs : List UInt8) (a : Nat) : Except Int (Int × Nat) :=
  if kd = 0 then .ok (0, a) else if kd = 1 then (match numberL bs a with | .ok (u, k) => .ok (unfoldN u, a + k) | .error f => .error f)
  else (match rNumL bs a with | .ok (u, k) => .ok ((u : Int), a + k) | .error f => .error f)
def TakePost (kd g c a : Nat) (A : Option Addr) (bs : List UInt8) (w : World) (e : Ending) (w' : World) : Prop :=
  match takeL kd bs a with
  | .ok (n, a2) => e = .returned (.int .i64 n) ∧ Rd w' g A c bs a2 false 0 ∧ Only (fun b => b = g) w w'
  | .error f => Fell w g A c bs f e w'
/-- What the row holds of a kind. -/
structure KindAt (p : Nat → Nat) (kd : Nat) (mf : FuncId) (mc : Array Value) (pf tf : FuncId) : Prop where
  cm : ∀ args wz, (callFunc mf args).run Try.prog wz = .ok (.enter mf args) wz
  cp : ∀ args wz, (callFunc pf args).run Try.prog wz = .ok (.enter pf args) wz
  ct : ∀ args wz, (callFunc tf args).run Try.prog wz = .ok (.enter tf args) wz
  m0 : (opsL p)[kd * 3]? = some (.func (.func mf) #[] mc)
  m1 : (opsL p)[kd * 3 + 1]? = some (.func (.func pf) #[] #[])
  m2 : (opsL p)[kd * 3 + 2]? = some (.func (.func tf) #[] #[])
  may : ∀ (a : Int) (wz : World) (go : Nat), OpsAt wz go p → Calls Try.prog mf (#[.int .i64 a] ++ mc) wz fun e w' => e = .returned (.bool (mayB kd a)) ∧ w' = wz
  put : ∀ (a : Int) (wz : World) (base gw : Nat) (A' : Option Addr) (c' : Nat) (xs : List UInt8), mayB kd a = true → -9223372036854775808 ≤ a → a ≤ 9223372036854775807 → Wr wz base gw A' c' xs 0 → xs.length ≤ 1000000 → base ≤ wz.heap.size →
    Calls Try.prog pf #[.pointer (some ⟨gw, 0, none⟩), .int .i64 a] wz fun e w' => e = .returned (.tuple #[]) ∧ WrPost base gw A' wz (xs ++ argL kd a) 0 w'
  take : ∀ (wz : World) (g c a : Nat) (A : Option Addr) (bs : List UInt8), Rd wz g A c bs a false 0 → bs.length ≤ 140737488351232 → Calls Try.prog tf #[.pointer (some ⟨g, 0, none⟩)] wz (TakePost kd g c a A bs wz)
theorem take0_any (w : World) (x : Value) : Calls Try.prog 56 #[x] w fun e w' => e = .returned (.int .i64 0) ∧ w' = w := by
  go_enter Try.func56, Try.ntmps56
  go_wp2_with fail
  go_ret
  exact ⟨rfl, rfl⟩
theorem kind_at (p : Nat → Nat) (kd : Nat) (hk : kd ≤ 6) : ∃ mf mc pf tf, KindAt p kd mf mc pf tf := by
  by_cases h0 : kd = 0
  · subst h0
    refine ⟨54, #[], 55, 56, fun _ _ => by kernel_rfl, fun _ _ => by kernel_rfl, fun _ _ => by kernel_rfl, rfl, rfl, rfl, fun a wz go h => ?_, fun a wz base gw A' c' xs hm h1 h2 hW hx hb => ?_, fun wz g c a A bs hrd hl => ?_⟩
    · exact (may0_any a).mono fun e w' h => h
    · refine (put0_any _ a).mono ?_
      rintro e w' ⟨rfl, rfl⟩
      rw [show argL 0 a = [] from rfl, List.append_nil]
      exact ⟨rfl, hW.refl_post⟩
    · refine (take0_any wz _).mono ?_
      rintro e w' ⟨rfl, rfl⟩
      exact ⟨rfl, hrd, Only.refl _ _⟩
  by_cases h1 : kd = 1
  · subst h1
    refine ⟨57, #[], 58, 59, fun _ _ => by kernel_rfl, fun _ _ => by kernel_rfl, fun _ _ => by kernel_rfl, rfl, rfl, rfl, fun a wz go h => ?_, fun a wz base gw A' c' xs hm h1 h2 hW hx hb => ?_, fun wz g c a A bs hrd hl => ?_⟩
    · exact (may1_any a).mono fun e w' h => h
    · have h := int_any base gw A' c' xs 0 a wz hW h1 (by omega) (by omega) hb
      have h9 := formL_le9 (foldN a)
      rw [putL_room (by omega)] at h
      exact h
    · refine (rInt_any g c a A bs wz hrd hl).mono ?_
      intro e w' h
      unfold TakePost takeL
      rw [if_neg (by decide), if_pos rfl]
      cases hn : numberL bs a with
      | error f => rw [hn] at h; exact h
      | ok q => rw [hn] at h; exact h
  · have h2 : 2 ≤ kd := by omega
    obtain ⟨e0, e1, e2⟩ := opsL_get p kd h2 hk
    refine ⟨71, #[.pointer (some ⟨p kd, 0, none⟩)], 39, 47, fun _ _ => by kernel_rfl, fun _ _ => by kernel_rfl, fun _ _ => by kernel_rfl, e0, e1, e2, fun a wz go h => ?_, fun a wz base gw A' c' xs hm h3 h4 hW hx hb => ?_, fun wz g c a A bs hrd hl => ?_⟩
    · have hm := mayK_any a (mostL kd) (p kd) (h.box kd h2 hk)
      unfold mayB
      rw [if_neg h0, if_neg h1]
      exact hm
    · unfold mayB at hm
      rw [if_neg h0, if_neg h1] at hm
      simp only [Bool.and_eq_true, decide_eq_true_eq] at hm
      have h := num_any base gw A' c' xs 0 a wz hW (by omega) (by omega) hb
      have h9 := formL_le9 a.toNat
      unfold numL at h
      rw [if_neg (by omega), putL_room (by omega)] at h
      unfold argL
      rw [if_neg h0, if_neg h1]
      exact h
    · refine (rNum_any g c a A bs wz hrd hl).mono ?_
      intro e w' h
      unfold TakePost takeL
      rw [if_neg h0, if_neg h1]
      cases hn : rNumL bs a with
      | error f => rw [hn] at h; exact h
      | ok q => rw [hn] at h; exact h
end Go.Proofs.Ytmmdkpnoncnjnaa
