/- What a sheet is told over bytes that its things' forms make: plain Lean, and the contract of that Read with all that the sheet then holds. -/
import Derived.Test.YtefaapcekbgjoaaReadG
namespace Go.Proofs.Ytefaapcekbgjoaa
open Go.RowKit

theorem step1_det {bs : List UInt8} {a a2 a3 : Nat} {x y z : Item} (h : Step1 bs a x y a2) (h' : Step1 bs a x z a3) : a2 = a3 ∧ y.kind = z.kind ∧ y.n = z.n ∧ y.p.ys = z.p.ys := by
  cases h <;> cases h' <;> first | (exfalso; omega) | simp_all
theorem err_no {bs : List UInt8} {a a2 : Nat} {x y : Item} {f : Int} (h : Err1 bs a x f) (h' : Step1 bs a x y a2) : False := by
  cases h <;> cases h' <;> first | (exfalso; omega) | simp_all
theorem form_step (pre rest : List UInt8) (x : Item) (hok : Okay x) : ∃ y, Step1 (pre ++ (itemL x ++ rest)) pre.length x y (pre.length + (itemL x).length) ∧ As y x := by
  obtain ⟨k1, k6, num, bool, n1, n2, len⟩ := hok
  by_cases h1 : x.kind = 1
  · have hi : itemL x = formL x.n.toNat := by simp [itemL, h1]
    have hn := num h1
    rw [hi]
    exact ⟨_, Step1.num h1 (rNum_form pre rest x.n.toNat (by omega)) rfl, rfl, fun _ => Int.toNat_of_nonneg hn, fun h => by omega, fun _ => rfl⟩
  by_cases h2 : x.kind = 2
  · have hi : itemL x = formL (foldN x.n) := by simp [itemL, h2]
    rw [hi]
    exact ⟨_, Step1.int h2 (number_form pre rest (foldN x.n) (foldN_lt x.n n1 (by omega))) rfl, rfl, fun _ => unfold_fold x.n, fun h => by omega, fun _ => rfl⟩
  by_cases h3 : x.kind = 3
  · have hi : itemL x = boolL (x.n == 1) := by simp [itemL, h3]
    rw [hi, show (boolL (x.n == 1)).length = 1 from by cases (x.n == 1) <;> rfl]
    refine ⟨⟨x.kind, if (x.n == 1) = true then 1 else 0, ⟨none, 0, []⟩⟩, Step1.bool h3 (rBool_form pre rest (x.n == 1)) rfl, rfl, fun _ => ?_, fun h => by omega, fun _ => rfl⟩
    rcases bool h3 with h | h <;> simp [h]
  by_cases h6 : x.kind = 6
  · have hi : itemL x = x.p.ys := by simp [itemL, h6]
    rw [hi]
    exact ⟨_, Step1.raw (A := none) (c := 0) h6 (rRaw_form pre x.p.ys rest) rfl, rfl, fun h => by omega, fun _ => rfl, fun h => by dsimp only at h; omega⟩
  · have hi : itemL x = formL x.p.ys.length ++ x.p.ys := by simp [itemL, h1, h2, h3, h6]
    rw [hi]
    exact ⟨_, Step1.bytes (A := none) (c := 0) (by omega) (rBytes_form pre x.p.ys rest (by omega)), rfl, fun h => by omega, fun _ => rfl, fun h => by dsimp only at h; omega⟩
theorem form_at {all : List Item} (hok : ∀ x ∈ all, Okay x) (k : Nat) (hk : k < all.length) : ∃ y, Step1 (formsL all) (formsL (all.take k)).length all[k] y (formsL (all.take (k + 1))).length ∧ As y all[k] := by
  have h := form_step (formsL (all.take k)) (formsL (all.drop (k + 1))) all[k] (hok _ (List.getElem_mem hk))
  rw [← forms_split all k hk, ← forms_next all k hk] at h
  exact h
theorem chain_at {all told : List Item} {ats : Nat → Nat} (hok : ∀ x ∈ all, Okay x) (h0 : ats 0 = 0) : ∀ k, k ≤ all.length → (∀ j, j < k → ∀ h2 : j < all.length, ∃ y, told[j]? = some y ∧ Step (formsL all) (ats j) all[j] y (ats (j + 1))) → ats k = (formsL (all.take k)).length := by
  intro k
  induction k with
  | zero => intro _ _; rw [h0]; rfl
  | succ k ih =>
    intro hk h
    have h1 := ih (by omega) fun j hj => h j (by omega)
    obtain ⟨y, -, -, -, hs⟩ := h k (by omega) (by omega)
    obtain ⟨z, hz, -⟩ := form_at hok k (by omega)
    rw [h1] at hs
    exact (step1_det hs hz).1
theorem told_as {all told : List Item} {ats : Nat → Nat} (hok : ∀ x ∈ all, Okay x) (h0 : ats 0 = 0) (h : ∀ j, j < all.length → ∀ h2 : j < all.length, ∃ y, told[j]? = some y ∧ Step (formsL all) (ats j) all[j] y (ats (j + 1)))
    (hb : ∀ y ∈ told, y.kind ≤ 3 → y.p.ys = []) (j : Nat) (hj : j < all.length) : ∃ y, told[j]? = some y ∧ As y all[j] := by
  obtain ⟨y, hy, hk, -, hs⟩ := h j hj hj
  obtain ⟨z, hz, hA⟩ := form_at hok j hj
  rw [chain_at hok h0 j (by omega) fun i hi h2 => h i (by omega) h2] at hs
  obtain ⟨-, e2, e3, e4⟩ := step1_det hs hz
  exact ⟨y, hy, e2.trans hA.kind, fun h => e3.trans (hA.n h), fun h => e4.trans (hA.ys h), fun h => hb y (List.mem_of_getElem? hy) h⟩
theorem step_nil {bs : List UInt8} {a a2 : Nat} {x y : Item} (h : Step bs a x y a2) (hk : y.kind ≤ 3) : y.p.ys = [] := by
  obtain ⟨h1, -, h⟩ := h
  cases h <;> first | (exfalso; dsimp only at hk; omega) | simp_all
theorem not_stuck {all : List Item} {f : Int} (hok : ∀ x ∈ all, Okay x) (h : Stuck (formsL all) all f) : False := by
  obtain ⟨k, ats, told, hk, h0, hst, he⟩ := h
  obtain ⟨z, hz, -⟩ := form_at hok k hk
  rw [chain_at hok h0 k (by omega) hst] at he
  exact err_no he hz
/-- Told whole, each thing as it was put, all bytes of the call's own. -/
def ReadOPost (gs : Nat) (AW : Option Addr) (cW : Nat) (all : List Item) (w : World) (e : Ending) (w' : World) : Prop :=
  e = .returned (.int .i64 0) ∧ Only (fun b => b = gs) w w' ∧ ∃ g base ats AT cT AL cL told, w.heap.size < base ∧ SheetG w' (formsL all) gs g base AW cW all all.length ats AT cT AL cL told ∧ ∀ j, ∀ h : j < all.length, ∃ y, told[j]? = some y ∧ As y all[j]
theorem read_own (gs c2 cW : Nat) (A2 AW : Option Addr) (all : List Item) (w : World) (hp : Sl w ⟨A2, c2, formsL all⟩) (hsh : Blk w gs 83 #[.slice AW all.length cW, .slice none 0 0, .slice none 0 0, .pointer none])
    (hRW : RV w AW (all.flatMap itemCells)) (hAW : ∀ b o, AW = some ⟨b, o, none⟩ → b < w.heap.size ∧ b ≠ gs) (hok : ∀ x ∈ all, Okay x) (hl : (formsL all).length ≤ 140737488351232) (hn : all.length ≤ 400) :
    Calls Try.prog 30 #[.slice A2 (formsL all).length c2, .func (.func 50) #[.pointer (some ⟨gs, 0, none⟩)] #[]] w (ReadOPost gs AW cW all w) := by
  refine (read_full gs c2 cW A2 AW (formsL all) all w hp hsh hRW hAW (fun x hx => ⟨(hok x hx).k1, (hok x hx).k6, (hok x hx).len⟩) hl hn).mono ?_
  rintro e w5 ⟨hO, h⟩
  rcases h with ⟨f, hf, hst, -⟩ | ⟨g, base, ats, AT, cT, AL, cL, told, hb, hle, rfl, hS⟩
  · exact (not_stuck hok hst).elim
  · have hat := chain_at hok hS.zero all.length (Nat.le_refl _) hS.step
    rw [List.take_length] at hat
    refine ⟨by rw [hat]; simp [readE], hO, g, base, ats, AT, cT, AL, cL, told, hb, hS, fun j hj => told_as hok hS.zero hS.step (fun y hy hk => ?_) j hj⟩
    obtain ⟨i, hi, rfl⟩ := List.getElem_of_mem hy
    obtain ⟨z, hz, hs⟩ := hS.step i (by rw [← hS.len]; exact hi) (by rw [← hS.len]; exact hi)
    rw [List.getElem?_eq_getElem hi] at hz
    injection hz with hz
    rw [hz] at hk ⊢
    exact step_nil hs hk
end Go.Proofs.Ytefaapcekbgjoaa
