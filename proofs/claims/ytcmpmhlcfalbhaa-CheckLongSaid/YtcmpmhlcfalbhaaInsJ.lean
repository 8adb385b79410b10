/- Several texts in one: CopyN InsK InsL Known. -/
import Derived.Test.YtcmpmhlcfalbhaaBaseK
import Derived.Laws.CopyRow
import Derived.Test.YtcmpmhlcfalbhaaOpsK
import Derived.Test.YtcmpmhlcfalbhaaDecK
import Derived.Deep.QuietTactic
import Derived.BigQuiet
namespace Go.Proofs.Ytcmpmhlcfalbhaa

section
/- copy and make of elements of several cells. -/
open Go.RowKit

section
variable {P : Program}
theorem run_copy_rowN (w : World) (dT sT ty elem : TypeId) (g o dLen dCap : Nat) (a : Addr) (sLen sCap sz : Nat) (cur : Array Value) (t : TypeId) (cs : List Value)
    (hu : P.underlying dT = some (.slice elem)) (hs : (P.info? elem).map (·.size) = some sz)
    (hg : w.heap[g]? = some (.cells cur t (0, 0))) (hn : cs.length = Nat.min sLen dLen * sz)
    (hsrc : ∀ j v, cs[j]? = some v → w.cell? (a.add j) = some v) (hfit : o + cs.length ≤ cur.size) (h1 : ∀ v ∈ cs, v.oneCell' = true) :
    (Builtin.copy_ #[dT, sT] ty #[.slice (some ⟨g, o, none⟩) dLen dCap, .slice (some a) sLen sCap]).run P w =
      .ok (goInt (Nat.min sLen dLen)) (w.setRow g (cur.toList.take o ++ cs ++ cur.toList.drop (o + cs.length)).toArray) := by
  have hl := run_loadCells_list (P := P) w a cs hsrc
  have hst := run_storeCells_at P g o t cs 0 cur w hg (by simpa using hfit) h1
  cases hq : P.info? elem with
  | none => simp [hq] at hs
  | some i =>
    have hi : i.size = sz := by simpa [hq] using hs
    simp [Builtin.copy_, run_underlying hu, Builtin.lenOf, Builtin.firstCells, sizeOf, typeInfo, hq, hi, ← hn, hl, hst]
theorem run_copy_noneN (w : World) (dT sT ty elem : TypeId) (d a : Option Addr) (dLen dCap sLen sCap sz : Nat) (hu : P.underlying dT = some (.slice elem)) (hs : (P.info? elem).map (·.size) = some sz) (hn : Nat.min sLen dLen = 0) :
    (Builtin.copy_ #[dT, sT] ty #[.slice d dLen dCap, .slice a sLen sCap]).run P w = .ok (goInt 0) w := by
  cases hq : P.info? elem with
  | none => simp [hq] at hs
  | some i =>
    have hl : ∀ (x : Addr), (loadCells x 0).run P w = .ok #[] w := fun x => by simpa using run_loadCells_list (P := P) w x [] (by simp)
    cases d <;> cases a <;> simp [Builtin.copy_, run_underlying hu, Builtin.lenOf, Builtin.firstCells, sizeOf, typeInfo, hq, hn, storeCells, hl]
theorem wpList_copyN {w : World} {ops : Array Oper} {rest : List Oper} {o : Oper} {a : Act} {Q : Exit → Act → World → Prop} (hgd : o.guard = none) (d s : Operand) {dT sT : TypeId}
    (ho : o.op = .call { callee := .builtin .copy, args := #[d, s], argTypes := #[dT, sT] }) {elem : TypeId} (hu : P.underlying dT = some (.slice elem)) {sz : Nat} (hsz : (P.info? elem).map (·.size) = some sz) (hpos : 0 < sz)
    {g off dLen dCap : Nat} {A : Option Addr} {n sLen sCap : Nat} (hd : a.eval d = .slice (some ⟨g, off, none⟩) dLen dCap) (hs : a.eval s = .slice A sLen sCap)
    {cur : List Value} {t : TypeId} (hg : Blk w g t cur.toArray) {us : List Value} (hr : RV w A us) (hn : us.length = n * sz) (hmin : n = Nat.min sLen dLen) (hfit : off + us.length ≤ cur.length) (h1 : ∀ u ∈ us, u.oneCell' = true)
    (h : ∀ w', Blk w' g t (splice cur off us).toArray → Only (fun k => k = g) w w' → w'.heap.size = w.heap.size → wpList P ops Q rest (a.put o.dst (.int .i64 n)) w') :
    wpList P ops Q (o :: rest) a w := by
  refine wpList_plain hgd fun K hK => ?_
  rcases Nat.eq_zero_or_pos n with h0 | h0
  · have hu0 : us = [] := List.eq_nil_of_length_eq_zero (by rw [hn, h0, Nat.zero_mul])
    subst hu0
    have hrun := run_copy_noneN (P := P) w dT sT o.type elem (some ⟨g, off, none⟩) A dLen dCap sLen sCap sz hu hsz (by omega)
    refine wp_of_run (v := .int .i64 n) (w' := w) ?_ (hK _ _ (h w (by simpa [splice] using hg) (Only.refl _ _) rfl))
    subst h0
    simp [execOp, ho, resolve, invoke, builtin, hd, hs, hrun, Result.andThen, goInt]
  · obtain ⟨b, o', rfl, hb, hc⟩ := hr.at_ (by rw [hn]; exact Nat.mul_pos h0 hpos)
    have hrun := run_copy_rowN (P := P) w dT sT o.type elem g off dLen dCap ⟨b, o', none⟩ sLen sCap sz cur.toArray t us hu hsz hg (by rw [← hmin]; exact hn) (fun j v hj => by rw [addr_add]; exact hc j v hj) (by simpa using hfit) h1
    have hb' := setRow_heap w g _ (cur.toArray.toList.take off ++ us ++ cur.toArray.toList.drop (off + us.length)).toArray t _ hg
    refine wp_of_run (v := .int .i64 n) (w' := w.setRow g (cur.toArray.toList.take off ++ us ++ cur.toArray.toList.drop (off + us.length)).toArray) ?_ (hK _ _ (h _ ?_ (only_setRow g _) (by simp [World.setRow])))
    · rw [← hmin] at hrun
      simp [execOp, ho, resolve, invoke, builtin, hd, hs, hrun, Result.andThen, goInt]
    · have e : (splice cur off us).toArray = (cur.toArray.toList.take off ++ us ++ cur.toArray.toList.drop (off + us.length)).toArray := by
        unfold splice
        rw [List.append_assoc]
      rw [e]
      exact hb'
theorem made_all (z : Array Value) (v : Value) (hz : 0 < z.size) (h : ∀ k, k < z.size → z[k]? = some v) (n : Nat) : madeCells z n = (List.replicate n v).toArray := by
  apply Array.ext
  · simp [size_madeCells]
  · intro k h1 h2
    have hk : k % z.size < z.size := Nat.mod_lt _ hz
    have h3 := h _ hk
    rw [Array.getElem?_eq_getElem hk] at h3
    injection h3 with h3
    simp [madeCells, getElem!_pos z (k % z.size) hk, h3]
theorem wpList_makeN {w : World} {ops : Array Oper} {rest : List Oper} {o : Oper} {a : Act} {Q : Exit → Act → World → Prop} (hgd : o.guard = none) (l c : Operand) {t e : TypeId} {z v : Value} {size bytes : Nat}
    (ho : o.op = .makeSlice t l c) (ht : P.underlying t = some (.slice e)) (hinfo : (P.info? e).map (fun i => (i.zero, i.size, i.bytes)) = some (some z, size, bytes)) (hzs : 0 < z.cells.size) (hzc : ∀ k, k < z.cells.size → z.cells[k]? = some v)
    (kl kc : IntKind) (L : Int) (n : Nat) (hl : a.eval l = .int kl L) (hc : a.eval c = .int kc L) (hL : L = n) (hb : bytes * n ≤ 281474976710656) (h63 : n ≤ maxLen)
    (h : ∀ w', Blk w' w.heap.size e (List.replicate (n * size) v).toArray → Below w.heap.size w w' → w'.heap.size = w.heap.size + 1 → wpList P ops Q rest (a.put o.dst (.slice (some ⟨w.heap.size, 0, none⟩) n n)) w') :
    wpList P ops Q (o :: rest) a w := by
  obtain ⟨i, hi, h1, h2, h3⟩ := info_parts hinfo
  refine wpList_plain hgd fun K hK => ?_
  subst hL
  have hb' : (i.bytes : Int) * (n : Int) ≤ 281474976710656 := by
    rw [h3]
    have h : ((bytes * n : Nat) : Int) ≤ 281474976710656 := by omega
    rwa [Int.natCast_mul] at h
  have h63' : (n : Int) ≤ 9223372036854775807 := by
    simp only [maxLen] at h63
    omega
  have hr := run_make (P := P) w t e i z ht hi h1 kl kc n n (by omega) (Int.le_refl _) hb' h63'
  simp only [Int.toNat_natCast] at hr
  rw [made_all z.cells v hzs hzc, h2] at hr
  refine wp_of_run (v := .slice (some ⟨w.heap.size, 0, none⟩) n n) ?_ (hK _ _ (h _ (Blk.new w e _) ((Below.refl _ _).alloc (Nat.le_refl _) _) (by simp)))
  unfold execOp
  simp only [ho, hl, hc, Sem.run_bind, hr, Result.andThen_ok, Sem.run_pure]
end
end

section
/- Rows of instructions: a block of them, Same, Lend, Kept. -/
open Go.RowKit

theorem insCells_set : ∀ (ls : List Ins) (i : Nat) (x : Ins), i < ls.length → ((ls.flatMap insCells).set (i * 2) (.int .i64 x.op)).set (i * 2 + 1) (.int .i64 x.a) = (ls.set i x).flatMap insCells := by
  intro ls
  induction ls with
  | nil => intro i x h; cases h
  | cons y ls ih =>
    intro i x h
    cases i with
    | zero => rfl
    | succ i =>
      rw [List.set_cons_succ, List.flatMap_cons, List.flatMap_cons, ← ih i x (by simpa using h), show (i + 1) * 2 = i * 2 + 2 from by omega]
      rfl
abbrev BlkI (w : World) (g : Nat) (ls : List Ins) : Prop := Blk w g 45 (ls.flatMap insCells).toArray
theorem BlkI.put {w : World} {g : Nat} {ls : List Ins} (h : BlkI w g ls) (i : Nat) (hi : i < ls.length) (x : Ins) : BlkI ((w.setCell ⟨g, i * 2, none⟩ (.int .i64 x.op)).setCell ⟨g, i * 2 + 1, none⟩ (.int .i64 x.a)) g (ls.set i x) := by
  have h1 := (Blk.setL h (i * 2) (.int .i64 x.op)).setL (i * 2 + 1) (.int .i64 x.a)
  rwa [insCells_set ls i x hi] at h1
theorem BlkI.at_ {w : World} {g : Nat} {ls : List Ins} (h : BlkI w g ls) (i : Nat) (hi : i < ls.length) : w.cell? ⟨g, i * 2, none⟩ = some (.int .i64 (ls[i]).op) ∧ w.cell? ⟨g, i * 2 + 1, none⟩ = some (.int .i64 (ls[i]).a) := by
  have h0 := insCells_get ls i 0 hi (by omega)
  have h1 := insCells_get ls i 1 hi (by omega)
  exact ⟨by rw [Blk.at_ h]; exact h0, by rw [Blk.at_ h]; exact h1⟩
theorem BlkI.rv {w : World} {g : Nat} {ls : List Ins} (h : BlkI w g ls) (n : Nat) (hn : n ≤ ls.length) : RV w (some ⟨g, 0, none⟩) ((ls.take n).flatMap insCells) := by
  have h1 : RV w (some ⟨g, 0, none⟩) (ls.flatMap insCells) := by simpa using RV.of_blk h
  have h2 := h1.cut 0 (n * 2)
  rw [Nat.add_zero, List.drop_zero] at h2
  have e : (ls.flatMap insCells).take (n * 2) = (ls.take n).flatMap insCells := by
    conv => lhs; rw [← List.take_append_drop n ls, List.flatMap_append]
    rw [List.take_append_of_le_length (by rw [insCells_len, List.length_take]; omega), List.take_of_length_le (by rw [insCells_len, List.length_take]; omega)]
  rwa [e] at h2
/-- Are they the same? -/
def sameB : List Ins → List Ins → Bool
  | [], [] => true
  | x :: xs, y :: ys => (x.op == y.op && x.a == y.a) && sameB xs ys
  | _, _ => false
theorem sameB_iff : ∀ xs ys : List Ins, sameB xs ys = true ↔ xs = ys := by
  intro xs
  induction xs with
  | nil => intro ys; cases ys <;> simp [sameB]
  | cons x xs ih =>
    intro ys
    cases ys with
    | nil => simp [sameB]
    | cons y ys =>
      obtain ⟨o1, a1⟩ := x
      obtain ⟨o2, a2⟩ := y
      simp only [sameB, Bool.and_eq_true, beq_iff_eq, ih, List.cons.injEq, Ins.mk.injEq]
theorem sameB_self (xs : List Ins) : sameB xs xs = true := (sameB_iff xs xs).2 rfl
theorem sameB_len : ∀ xs ys : List Ins, xs.length ≠ ys.length → sameB xs ys = false := by
  intro xs ys h
  cases hs : sameB xs ys with
  | false => rfl
  | true => exact absurd (congrArg List.length ((sameB_iff xs ys).1 hs)) h
end

section
/- The law's Lend and Kept of instructions. -/
open Go.RowKit

def markI (n j : Nat) : Ins := ⟨-9, ((n + j : Nat) : Int)⟩
/-- Instructions, k marks behind them, and room that is still empty. -/
def lentI (l : List Ins) (k M : Nat) : List Ins := l ++ ((List.range k).map (markI l.length) ++ List.replicate (M - k) ⟨0, 0⟩)
theorem length_lentI (l : List Ins) (k M : Nat) (h : k ≤ M) : (lentI l k M).length = l.length + M := by
  simp only [lentI, List.length_append, List.length_map, List.length_range, List.length_replicate]; omega
theorem set_lentI (l : List Ins) (k M : Nat) (h : k < M) : (lentI l k M).set (l.length + k) (markI l.length k) = lentI l (k + 1) M := by
  obtain ⟨m, hm⟩ : ∃ m, M - k = m + 1 := ⟨M - k - 1, by omega⟩
  have hm' : M - (k + 1) = m := by omega
  unfold lentI
  rw [hm, hm', List.set_append_right _ _ (by omega), Nat.add_sub_cancel_left, List.set_append_right _ _ (by simp), List.length_map, List.length_range, Nat.sub_self, List.replicate_succ, List.set_cons_zero, List.range_succ, List.map_append, List.append_assoc]
  rfl
theorem zeros_flat (k : Nat) : List.replicate (k * 2) (Value.int .i64 0) = (List.replicate k (⟨0, 0⟩ : Ins)).flatMap insCells := by
  induction k with
  | zero => rfl
  | succ k ih => rw [List.replicate_succ, List.flatMap_cons, ← ih, Nat.succ_mul, List.replicate_succ, List.replicate_succ]; rfl
theorem splice_zerosI (l : List Ins) (M : Nat) : splice (List.replicate ((l.length + M) * 2) (Value.int .i64 0)) 0 (l.flatMap insCells) = (lentI l 0 M).flatMap insCells := by
  unfold splice lentI
  rw [List.take_zero, List.nil_append, Nat.zero_add, insCells_len, List.drop_replicate, List.flatMap_append, show (l.length + M) * 2 - l.length * 2 = M * 2 from by omega, zeros_flat]
  rfl
theorem lentI_mark (l : List Ins) (k M : Nat) (h : k < M) : (lentI l M M)[l.length + k]? = some (markI l.length k) := by
  unfold lentI
  rw [List.getElem?_append_right (by omega), Nat.add_sub_cancel_left, List.getElem?_append_left (by simpa using h), List.getElem?_map, List.getElem?_range h]
  rfl
def LendIPost (w : World) (l : List Ins) (e : Ending) (w' : World) : Prop :=
  ∃ g, e = .returned (.slice (some ⟨g, 0, none⟩) l.length (l.length + 67)) ∧ BlkI w' g (lentI l 67 67) ∧ w.heap.size ≤ g ∧ Below w.heap.size w w'
theorem ins_size : (Try.prog.info? 45).map (·.size) = some 2 := by kernel_rfl
end

section
/- The law's known: two instructions as bytes and back. -/
open Go.RowKit

theorem wpList_bytesStrG {P : Program} {w : World} {ops : Array Oper} {rest : List Oper} {o : Oper} {a : Act} {Q : Exit → Act → World → Prop} (hw : Region.wanted o (yielded ops a.tmps) = true) (x : Operand) {src dst e : TypeId} {A : Option Addr} {c : Nat} {ys : List UInt8} (ho : o.op = .convert src dst x) (hx : a.eval x = .slice A ys.length c)
    (hr : RV w A (ys.map bv)) (hs : P.underlying src = some (.slice e)) (he : P.underlying e = some (.int .u8)) (hd : P.underlying dst = some .string)
    (h : wpList P ops Q rest (a.put o.dst (.string ⟨ys.toArray⟩)) w) : wpList P ops Q (o :: rest) a w := by
  refine wpList_runG hw (.string ⟨ys.toArray⟩) ?_ h
  unfold execOp
  simp only [ho, hx, Sem.run_bind, run_bytesStr (P := P) (c := c) hr hs he hd, Result.andThen_ok, Sem.run_pure]
def knownI : List Ins := [⟨3, -1⟩, ⟨18, 0⟩]
theorem enc_known : encL knownI = ([3, 1, 18], 0) := by kernel_rfl
theorem dec_known : decL [3, 1, 18] = (knownI, 0) := by kernel_rfl
end
end Go.Proofs.Ytcmpmhlcfalbhaa
