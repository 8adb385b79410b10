/- Several texts in one: OpDec OpDe2 OpBackL. -/
import Derived.Test.YtcmpmhlcfalbhaaOpsK
import Derived.Test.YtcmpmhlcfalbhaaRdK
namespace Go.Proofs.Ytcmpmhlcfalbhaa

section
/- What Decode is to tell, in plain Lean; the walk of its function. -/
open Go.RowKit
attribute [local go_sem] rowVal

theorem numL_err {bs : List UInt8} {a : Nat} {f : Int} (h : numberL bs a = .error f) : f ≠ 0 := by
  unfold numberL at h
  repeat' split at h
  all_goals first | (injection h with h; omega) | cases h
theorem rNumL_err {bs : List UInt8} {a : Nat} {f : Int} (h : rNumL bs a = .error f) : f ≠ 0 := by
  unfold rNumL at h
  split at h
  · rename_i hn; injection h with h; subst h; exact numL_err hn
  · split at h
    · injection h with h; omega
    · cases h
theorem takeL_err {kd : Nat} {bs : List UInt8} {a : Nat} {f : Int} (h : takeL kd bs a = .error f) : f ≠ 0 := by
  unfold takeL at h
  split at h
  · cases h
  · split at h
    · split at h
      · cases h
      · rename_i hn; injection h with h; subst h; exact numL_err hn
    · split at h
      · cases h
      · rename_i hn; injection h with h; subst h; exact rNumL_err hn
theorem takeL_ge {kd : Nat} {bs : List UInt8} {a : Nat} {n : Int} {a2 : Nat} (h : takeL kd bs a = .ok (n, a2)) : a ≤ a2 := by
  unfold takeL at h
  split at h
  · injection h with h; injection h with h1 h2; omega
  · split at h
    · split at h
      · injection h with h; injection h with h1 h2; omega
      · cases h
    · split at h
      · injection h with h; injection h with h1 h2; omega
      · cases h
def decStep (bs : List UInt8) (a : Nat) : Except Int (Ins × Nat) :=
  match rNumL bs a with
  | .error f => .error f
  | .ok (u, k) =>
    if isOp (u : Int) = false then .error 111
    else match takeL (kindN (u : Int)) bs (a + k) with
      | .error f => .error f
      | .ok (n, a2) => if mayB (kindN (u : Int)) n = false then .error 112 else .ok (⟨(u : Int), n⟩, a2)
def decFrom (bs : List UInt8) : Nat → List Ins → Nat → Except Int (List Ins)
  | 0, _, _ => .error 0
  | n + 1, l, a => if bs.length ≤ a then .ok l else if l.length = 4096 then .error 2 else
    match decStep bs a with
    | .error f => .error f
    | .ok (i, a2) => decFrom bs n (l ++ [i]) a2
theorem ins_info : (Try.prog.info? 45).map (fun i => (i.zero, i.size, i.bytes)) = some (some (.agg #[.int .i64 0, .int .i64 0]), 2, 16) := by kernel_rfl
theorem eIns : Elem Try.prog 41 45 2 16 := elem_of Try.underlying41 ins_info rfl (by decide)
theorem ins_one (l : List Ins) : ∀ u ∈ l.flatMap insCells, u.oneCell' = true := by
  intro u hu
  obtain ⟨x, -, hx⟩ := List.mem_flatMap.1 hu
  simp only [insCells, List.mem_cons, List.not_mem_nil, or_false] at hx
  rcases hx with rfl | rfl <;> rfl
def atOf (w : World) (g : Nat) : Nat := match w.cell? ⟨g, 1, none⟩ with | some (.int _ n) => n.toNat | _ => 0
theorem pc_of {w w' : World} {g pc : Nat} {u : Value} (h : Only (fun b => b = g) w w') (hc : w.cell? ⟨pc, 0, none⟩ = some u) (hf : w.frozen? ⟨pc, 0, none⟩ = false) (hl : pc < w.heap.size) (hn : pc ≠ g) : ∃ u, w'.cell? ⟨pc, 0, none⟩ = some u ∧ w'.frozen? ⟨pc, 0, none⟩ = false :=
  ⟨u, by rw [(ocell h).1 _ _ hl hn]; exact hc, by rw [(ocell h).2 _ _ hl hn]; exact hf⟩
/-- Told whole, or fallen. -/
def Dec1Post (w : World) (g c pc : Nat) (A : Option Addr) (bs : List UInt8) (R : Except Int (List Ins)) (e : Ending) (w' : World) : Prop :=
  Only (fun b => b = g ∨ b = pc) w w' ∧ ((∃ l AC cC, R = .ok l ∧ e = .returned (.tuple #[]) ∧ Rd w' g A c bs bs.length false 0 ∧ w'.cell? ⟨pc, 0, none⟩ = some (.slice AC l.length cC) ∧ w'.frozen? ⟨pc, 0, none⟩ = false ∧ Own w' w.heap.size 45 2 AC l.length cC (l.flatMap insCells)) ∨
    (∃ f at_, f ≠ 0 ∧ R = .error f ∧ e = .panicked [endedE g] ∧ Rd w' g A c bs at_ true f ∧ ∃ u, w'.cell? ⟨pc, 0, none⟩ = some u ∧ w'.frozen? ⟨pc, 0, none⟩ = false))
end

section
/- The walk of op's Decode. -/
open Go.RowKit
attribute [local go_sem] rowVal

def decR : Except Int (List Ins) → List Ins × Int
  | .ok l => (l, 0)
  | .error f => ([], f)
def decL (bs : List UInt8) : List Ins × Int := if 40960 < bs.length then ([], 2) else decR (decFrom bs (bs.length + 1) [] 0)
def DecPost (w : World) (r : List Ins × Int) (e : Ending) (w' : World) : Prop :=
  ∃ A2 c2, e = .returned (.tuple #[.slice A2 r.1.length c2, .int .i64 r.2]) ∧ Own w' w.heap.size 45 2 A2 r.1.length c2 (r.1.flatMap insCells) ∧ Below w.heap.size w w'
end

section
/- Code and its bytes, there and back: plain laws. -/
open Go.RowKit

def insGood (i : Ins) : Prop := isOp i.op = true ∧ mayB (kindN i.op) i.a = true
theorem encFrom_ok : ∀ (l : List Ins) (xs ys : List UInt8), encFrom xs l = (ys, 0) → ys = xs ++ l.flatMap insL ∧ ∀ i ∈ l, insGood i := by
  intro l
  induction l with
  | nil =>
    intro xs ys h
    unfold encFrom at h
    injection h with h1 h2
    subst h1
    simp
  | cons i l ih =>
    intro xs ys h
    unfold encFrom at h
    split at h
    · injection h with _ h2; exact absurd h2 (by decide)
    · rename_i h1
      split at h
      · injection h with _ h2; exact absurd h2 (by decide)
      · rename_i h2
        obtain ⟨h3, h4⟩ := ih _ _ h
        refine ⟨by rw [h3, List.flatMap_cons, List.append_assoc], fun j hj => ?_⟩
        rcases List.mem_cons.1 hj with rfl | hj
        · exact ⟨by simpa using h1, by simpa using h2⟩
        · exact h4 j hj
theorem encFrom_good : ∀ (l : List Ins) (xs : List UInt8), (∀ i ∈ l, insGood i) → encFrom xs l = (xs ++ l.flatMap insL, 0) := by
  intro l
  induction l with
  | nil => intro xs _; unfold encFrom; simp
  | cons i l ih =>
    intro xs h
    obtain ⟨h1, h2⟩ := h i (List.mem_cons_self ..)
    unfold encFrom
    rw [if_neg (by rw [h1]; decide), if_neg (by rw [h2]; decide), ih _ fun j hj => h j (List.mem_cons_of_mem _ hj), List.flatMap_cons, List.append_assoc]
theorem encL_ok {l : List Ins} {ys : List UInt8} (h : encL l = (ys, 0)) : l.length ≤ 4096 ∧ ys = l.flatMap insL ∧ ∀ i ∈ l, insGood i := by
  unfold encL at h
  split at h
  · injection h with _ h2; exact absurd h2 (by decide)
  · obtain ⟨h1, h2⟩ := encFrom_ok _ _ _ h
    exact ⟨by omega, by simpa using h1, h2⟩
theorem encL_good {l : List Ins} (hl : l.length ≤ 4096) (h : ∀ i ∈ l, insGood i) : encL l = (l.flatMap insL, 0) := by
  unfold encL
  rw [if_neg (by omega), encFrom_good _ _ h, List.nil_append]
theorem encL_snd (l : List Ins) : (encL l).2 = 0 ∨ (encL l).1 = [] := by
  have key : ∀ (l : List Ins) (xs : List UInt8), (encFrom xs l).2 = 0 ∨ (encFrom xs l).1 = [] := by
    intro l
    induction l with
    | nil => intro xs; exact .inl rfl
    | cons i l ih =>
      intro xs
      unfold encFrom
      split
      · exact .inr rfl
      · split
        · exact .inr rfl
        · exact ih _
  unfold encL
  split
  · exact .inr rfl
  · exact key _ _
theorem takeL_form (pre rest : List UInt8) (kd : Nat) (a : Int) (hm : mayB kd a = true) (h1 : -9223372036854775808 ≤ a) (h2 : a ≤ 9223372036854775807) :
    takeL kd (pre ++ (argL kd a ++ rest)) pre.length = .ok (a, pre.length + (argL kd a).length) := by
  unfold mayB at hm
  unfold takeL argL
  by_cases h0 : kd = 0
  · rw [if_pos h0] at hm
    rw [if_pos h0, if_pos h0]
    have : a = 0 := by simpa using hm
    subst this
    rfl
  rw [if_neg h0] at hm
  rw [if_neg h0, if_neg h0]
  by_cases h3 : kd = 1
  · rw [if_pos h3, if_pos h3, number_form pre rest (foldN a) (foldN_lt a h1 (by omega))]
    dsimp only
    rw [unfold_fold]
  rw [if_neg h3] at hm
  rw [if_neg h3, if_neg h3, rNum_form pre rest a.toNat (by omega)]
  simp only [Bool.and_eq_true, decide_eq_true_eq] at hm
  dsimp only
  rw [Int.toNat_of_nonneg hm.1]
theorem op_len {op : Int} (h : isOp op = true) : (formL op.toNat).length = 1 := by
  obtain ⟨nn, hnn, hn, -⟩ := isOp_row h
  rw [length_formL, if_pos (by omega)]
theorem argL_le (kd : Nat) (a : Int) : (argL kd a).length ≤ 9 := by
  unfold argL
  split
  · simp
  · split
    · exact formL_le _
    · exact formL_le _
theorem insL_len {i : Ins} (h : isOp i.op = true) : 1 ≤ (insL i).length ∧ (insL i).length ≤ 10 := by
  have h1 := op_len h
  have h2 := argL_le (kindN i.op) i.a
  unfold insL
  rw [List.length_append]
  omega
theorem decStep_form (pre rest : List UInt8) (i : Ins) (hg : insGood i) (hok : InsOk i) : decStep (pre ++ (insL i ++ rest)) pre.length = .ok (i, pre.length + (insL i).length) := by
  obtain ⟨nn, hnn, hn, -⟩ := isOp_row hg.1
  obtain ⟨op, a⟩ := i
  dsimp only at hnn
  subst hnn
  have e1 : pre ++ (insL ⟨(nn : Int), a⟩ ++ rest) = pre ++ (formL nn ++ (argL (kindN (nn : Int)) a ++ rest)) := by
    unfold insL
    rw [List.append_assoc]
    rfl
  rw [e1]
  unfold decStep
  rw [rNum_form pre _ nn (by omega)]
  dsimp only
  rw [if_neg (by rw [hg.1]; decide)]
  have e2 : pre ++ (formL nn ++ (argL (kindN (nn : Int)) a ++ rest)) = (pre ++ formL nn) ++ (argL (kindN (nn : Int)) a ++ rest) := by rw [List.append_assoc]
  have e3 : pre.length + (formL nn).length = (pre ++ formL nn).length := by rw [List.length_append]
  have ht := takeL_form (pre ++ formL nn) rest (kindN (nn : Int)) a hg.2 hok.a1 hok.a2
  rw [← e2, ← e3] at ht
  rw [ht]
  dsimp only
  rw [if_neg (by rw [hg.2]; decide)]
  unfold insL
  rw [List.length_append]
  show Except.ok _ = _
  rw [Nat.add_assoc]
  rfl
theorem decFrom_forms : ∀ (l done : List Ins) (pre : List UInt8) (n : Nat), (∀ i ∈ l, insGood i ∧ InsOk i) → done.length + l.length ≤ 4096 → (l.flatMap insL).length < n → decFrom (pre ++ l.flatMap insL) n done pre.length = .ok (done ++ l) := by
  intro l
  induction l with
  | nil =>
    intro done pre n _ _ hn
    obtain ⟨n, rfl⟩ : ∃ m, n = m + 1 := ⟨n - 1, by omega⟩
    unfold decFrom
    rw [if_pos (by simp)]
    simp
  | cons i l ih =>
    intro done pre n hg hl hn
    obtain ⟨n, rfl⟩ : ∃ m, n = m + 1 := ⟨n - 1, by omega⟩
    obtain ⟨h1, h2⟩ := hg i (List.mem_cons_self ..)
    have hlen := insL_len h1.1
    rw [List.flatMap_cons] at hn ⊢
    rw [List.length_append] at hn
    rw [List.length_cons] at hl
    unfold decFrom
    rw [if_neg (by rw [List.length_append, List.length_append]; omega), if_neg (by omega), decStep_form pre _ i h1 h2]
    dsimp only
    have e1 : pre ++ (insL i ++ l.flatMap insL) = (pre ++ insL i) ++ l.flatMap insL := by rw [List.append_assoc]
    have e2 : pre.length + (insL i).length = (pre ++ insL i).length := by rw [List.length_append]
    rw [e1, e2, ih (done ++ [i]) (pre ++ insL i) n (fun j hj => hg j (List.mem_cons_of_mem _ hj)) (by rw [List.length_append]; simp; omega) (by omega), List.append_assoc]
    rfl
theorem flat_le : ∀ (l : List Ins), (∀ i ∈ l, insGood i) → (l.flatMap insL).length ≤ 10 * l.length := by
  intro l
  induction l with
  | nil => intro _; simp
  | cons i l ih =>
    intro h
    have h1 := insL_len (h i (List.mem_cons_self ..)).1
    have h2 := ih fun j hj => h j (List.mem_cons_of_mem _ hj)
    rw [List.flatMap_cons, List.length_append, List.length_cons]
    omega
theorem dec_enc {l : List Ins} {ys : List UInt8} (hok : ∀ i ∈ l, InsOk i) (h : encL l = (ys, 0)) : decL ys = (l, 0) := by
  obtain ⟨h1, h2, h3⟩ := encL_ok h
  have h4 := flat_le l h3
  subst h2
  unfold decL
  rw [if_neg (by omega)]
  have h5 := decFrom_forms l [] [] ((l.flatMap insL).length + 1) (fun i hi => ⟨h3 i hi, hok i hi⟩) (by simpa using h1) (by omega)
  rw [List.nil_append] at h5
  rw [show (0 : Nat) = ([] : List UInt8).length from rfl, h5]
  rfl
theorem enc_inj {l m : List Ins} {ys : List UInt8} (hl : ∀ i ∈ l, InsOk i) (hm : ∀ i ∈ m, InsOk i) (h1 : encL l = (ys, 0)) (h2 : encL m = (ys, 0)) : l = m := by
  have e1 := dec_enc hl h1
  have e2 := dec_enc hm h2
  rw [e1] at e2
  injection e2
theorem enc_both {l m : List Ins} {p q : List UInt8} (h1 : encL l = (p, 0)) (h2 : encL m = (q, 0)) (h : (l ++ m).length ≤ 4096) : encL (l ++ m) = (p ++ q, 0) := by
  obtain ⟨-, rfl, g1⟩ := encL_ok h1
  obtain ⟨-, rfl, g2⟩ := encL_ok h2
  rw [encL_good h fun i hi => (List.mem_append.1 hi).elim (g1 i) (g2 i), List.flatMap_append]
/-! ### Bytes that are read are the code's. -/
theorem rNum_back {bs : List UInt8} {a u k : Nat} (h : rNumL bs a = .ok (u, k)) : (bs.drop a).take k = formL u ∧ u < 9223372036854775808 ∧ a + k ≤ bs.length ∧ 1 ≤ k := by
  have h1 := rNum_lt h
  unfold rNumL at h
  split at h
  · cases h
  · rename_i hn
    split at h
    · cases h
    · injection h with h
      injection h with e1 e2
      subst e1 e2
      exact ⟨number_back hn, by omega, by omega, by omega⟩
theorem fold_unfold (u : Nat) : foldN (unfoldN u) = u := by
  unfold foldN unfoldN
  split <;> split <;> omega
theorem takeL_back {kd : Nat} {bs : List UInt8} {a a2 : Nat} {n : Int} (ha : a ≤ bs.length) (h : takeL kd bs a = .ok (n, a2)) : a2 ≤ bs.length ∧ a ≤ a2 ∧ (bs.drop a).take (a2 - a) = argL kd n ∧ -9223372036854775808 ≤ n ∧ n ≤ 9223372036854775807 := by
  unfold takeL at h
  unfold argL
  by_cases h0 : kd = 0
  · rw [if_pos h0] at h
    rw [if_pos h0]
    injection h with h
    injection h with e1 e2
    subst e1 e2
    simp
    omega
  rw [if_neg h0] at h
  rw [if_neg h0]
  by_cases h1 : kd = 1
  · rw [if_pos h1] at h
    rw [if_pos h1]
    split at h
    · rename_i u k hn
      injection h with h
      injection h with e1 e2
      subst e1 e2
      have hb := number_back hn
      have hlt := number_lt hn
      refine ⟨by omega, by omega, ?_, ?_, ?_⟩
      · rw [Nat.add_sub_cancel_left, hb, fold_unfold]
      · unfold unfoldN; split <;> omega
      · unfold unfoldN; split <;> omega
    · cases h
  · rw [if_neg h1] at h
    rw [if_neg h1]
    split at h
    · rename_i u k hn
      injection h with h
      injection h with e1 e2
      subst e1 e2
      obtain ⟨hb, h2, h3, h4⟩ := rNum_back hn
      refine ⟨by omega, by omega, ?_, by omega, by omega⟩
      rw [Nat.add_sub_cancel_left, hb, Int.toNat_natCast]
    · cases h
theorem decStep_back {bs : List UInt8} {a a2 : Nat} {i : Ins} (h : decStep bs a = .ok (i, a2)) : a < a2 ∧ a2 ≤ bs.length ∧ (bs.drop a).take (a2 - a) = insL i ∧ insGood i ∧ InsOk i := by
  unfold decStep at h
  split at h
  · cases h
  rename_i u k hn
  obtain ⟨hb, hu, hk1, hk2⟩ := rNum_back hn
  split at h
  · cases h
  rename_i hop
  have hop : isOp (u : Int) = true := by simpa using hop
  split at h
  · cases h
  rename_i n a3 ht
  split at h
  · cases h
  rename_i hm
  have hm : mayB (kindN (u : Int)) n = true := by simpa using hm
  injection h with h
  injection h with e1 e2
  subst e1 e2
  obtain ⟨h1, h2, h3, h4, h5⟩ := takeL_back hk1 ht
  refine ⟨by omega, h1, ?_, ⟨hop, hm⟩, ⟨by dsimp only; omega, by dsimp only; omega, h4, h5⟩⟩
  unfold insL
  rw [Int.toNat_natCast, ← hb, ← h3, ← List.drop_drop, show a3 - a = k + (a3 - (a + k)) from by omega, List.take_add]
theorem decFrom_back {bs : List UInt8} : ∀ (n : Nat) (done : List Ins) (a : Nat) (l : List Ins), decFrom bs n done a = .ok l → done.flatMap insL = bs.take a → (∀ i ∈ done, insGood i ∧ InsOk i) → done.length ≤ 4096 → a ≤ bs.length → l.flatMap insL = bs ∧ (∀ i ∈ l, insGood i ∧ InsOk i) ∧ l.length ≤ 4096 := by
  intro n
  induction n with
  | zero => intro done a l h; unfold decFrom at h; cases h
  | succ n ih =>
    intro done a l h hb hg hl ha
    unfold decFrom at h
    split at h
    · rename_i h1
      injection h with h
      subst h
      rw [List.take_of_length_le h1] at hb
      exact ⟨hb, hg, hl⟩
    split at h
    · cases h
    rename_i h1 h2
    split at h
    · cases h
    rename_i i a2 hs
    obtain ⟨g1, g2, g3, g4, g5⟩ := decStep_back hs
    refine ih _ _ _ h ?_ ?_ (by rw [List.length_append]; simp; omega) g2
    · rw [List.flatMap_append, hb, List.flatMap_cons, List.flatMap_nil, List.append_nil, ← g3, show a2 = a + (a2 - a) from by omega, List.take_add, Nat.add_sub_cancel_left]
    · intro j hj
      rcases List.mem_append.1 hj with hj | hj
      · exact hg j hj
      · obtain rfl : j = i := by simpa using hj
        exact ⟨g4, g5⟩
theorem decStep_err {bs : List UInt8} {a : Nat} {f : Int} (h : decStep bs a = .error f) : f ≠ 0 := by
  unfold decStep at h
  split at h
  · rename_i hn; injection h with h; subst h; exact rNumL_err hn
  split at h
  · injection h with h; omega
  split at h
  · rename_i ht; injection h with h; subst h; exact takeL_err ht
  split at h
  · injection h with h; omega
  · cases h
theorem decFrom_err {bs : List UInt8} : ∀ (n : Nat) (done : List Ins) (a : Nat) (f : Int), decFrom bs n done a = .error f → bs.length - a < n → f ≠ 0 := by
  intro n
  induction n with
  | zero => intro done a f h h1; omega
  | succ n ih =>
    intro done a f h h1
    unfold decFrom at h
    split at h
    · cases h
    split at h
    · injection h with h; omega
    split at h
    · rename_i hs; injection h with h; subst h; exact decStep_err hs
    · rename_i i a2 hs
      have := (decStep_back hs).1
      exact ih _ _ _ h (by omega)
/-- What is decoded: whole, and its bytes are these; or nothing, and a fault. -/
theorem dec_back (bs : List UInt8) : ((decL bs).2 = 0 ∧ encL (decL bs).1 = (bs, 0) ∧ (∀ i ∈ (decL bs).1, insGood i ∧ InsOk i) ∧ (decL bs).1.length ≤ 4096) ∨ ((decL bs).2 ≠ 0 ∧ (decL bs).1 = []) := by
  unfold decL
  split
  · exact .inr ⟨by decide, rfl⟩
  · cases hd : decFrom bs (bs.length + 1) [] 0 with
    | error f => exact .inr ⟨decFrom_err _ _ _ _ hd (by omega), rfl⟩
    | ok l =>
      obtain ⟨h1, h2, h3⟩ := decFrom_back _ _ _ _ hd (by simp) (by simp) (by simp) (Nat.zero_le _)
      refine .inl ⟨rfl, ?_, h2, h3⟩
      show encL l = _
      rw [encL_good h3 fun i hi => (h2 i hi).1, h1]
end
end Go.Proofs.Ytcmpmhlcfalbhaa
