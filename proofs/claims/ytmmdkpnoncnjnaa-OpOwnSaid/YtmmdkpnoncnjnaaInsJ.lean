/- Several texts in one: CopyN InsK InsL Known. -/
import Derived.Test.YtmmdkpnoncnjnaaBaseK
import Derived.Laws.CopyRow
import Derived.Test.YtmmdkpnoncnjnaaOpsK
import Derived.Test.YtmmdkpnoncnjnaaDecK
import Derived.Deep.QuietTactic
import Derived.BigQuiet
namespace Go.Proofs.Ytmmdkpnoncnjnaa

section
/- copy and make of elements of several cells. -/
open Go.RowKit

section
variable {P : Program}
theorem run_copy_rowN (w : World) (dT sT ty elem : TypeId) (g o dLen dCap : Nat) (a : Addr) (sLen sCap sz : Nat) (cur : Array Value) (t : TypeId) (cs : List Value)
    (hu : P.underlying dT = some (.slice elem)) (hs : (P.info? elem).map (·.size) = some sz)
    (hg : w.heap[g]? = some (.cells cur t (0, 0))) (hn : cs.length = Nat.min sLen dLen * sz)
    (hsrc : ∀ j v, cs[j]? = some v → w.cell? (a.add j) = some v) (hfit : o + cs.length ≤ cur.size) (h1 : ∀ v ∈ cs, v.oneCell' = true) :
    (Builtin.copy_ #[dT, sT] ty #[.slice (some ⟨g, o, none⟩) dLen dCap, .slice (some a) sLen sCap]).run P w =
      .ok (goInt (Nat.min sLen dLen)) (w.setRow g (cur.toList.take o ++ cs ++ cur.toList.drop (o + cs.length)).toArray) := by
  have hl := run_loadCells_list (P := P) w a cs hsrc
  have hst := run_storeCells_at P g o t cs 0 cur w hg (by simpa using hfit) h1
  cases hq : P.info? elem with
  | none => simp [hq] at hs
  | some i =>
    have hi : i.size = sz := by simpa [hq] using hs
    simp [Builtin.copy_, run_underlying hu, Builtin.lenOf, Builtin.firstCells, sizeOf, typeInfo, hq, hi, ← hn, hl, hst]
theorem run_copy_noneN (w : World) (dT sT ty elem : TypeId) (d a : Option Addr) (dLen dCap sLen sCap sz : Nat) (hu : P.underlying dT = some (.slice elem)) (hs : (P.info? elem).map (·.size) = some sz) (hn : Nat.min sLen dLen = 0) :
    (Builtin.copy_ #[dT, sT] ty #[.slice d dLen dCap, .slice a sLen sCap]).run P w = .ok (goInt 0) w := by
  cases hq : P.info? elem with
  | none => simp [hq] at hs
  | some i =>
    have hl : ∀ (x : Addr), (loadCells x 0).run P w = .ok #[] w := fun x => by simpa using run_loadCells_list (P := P) w x [] (by simp)
    cases d <;> cases a <;> simp [Builtin.copy_, run_underlying hu, Builtin.lenOf, Builtin.firstCells, sizeOf, typeInfo, hq, hn, storeCells, hl]
theorem wpList_copyN {w : World} {ops : Array Oper} {rest : List Oper} {o : Oper} {a : Act} {Q : Exit → Act → World → Prop} (hgd : o.guard = none) (d s : Operand) {dT sT : TypeId}
    (ho : o.op = .call { callee := .builtin .copy, args := #[d, s], argTypes := #[dT, sT] }) {elem : TypeId} (hu : P.underlying dT = some (.slice elem)) {sz : Nat} (hsz : (P.info? elem).map (·.size) = some sz) (hpos : 0 < sz)
    {g off dLen dCap : Nat} {A : Option Addr} {n sLen sCap : Nat} (hd : a.eval d = .slice (some ⟨g, off, none⟩) dLen dCap) (hs : a.eval s = .slice A sLen sCap)
    {cur : List Value} {t : TypeId} (hg : Blk w g t cur.toArray) {us : List Value} (hr : RV w A us) (hn : us.length = n * sz) (hmin : n = Nat.min sLen dLen) (hfit : off + us.length ≤ cur.length) (h1 : ∀ u ∈ us, u.oneCell' = true)
    (h : ∀ w', Blk w' g t (splice cur off us).toArray → Only (fun k => k = g) w w' → w'.heap.size = w.heap.size → wpList P ops Q rest (a.put o.dst (.int .i64 n)) w') :
    wpList P ops Q (o :: rest) a w := by
  refine wpList_plain hgd fun K hK => ?_
  rcases Nat.eq_zero_or_pos n with h0 | h0
  · have hu0 : us = [] := List.eq_nil_of_length_eq_zero (by rw [hn, h0, Nat.zero_mul])
    subst hu0
    have hrun := run_copy_noneN (P := P) w dT sT o.type elem (some ⟨g, off, none⟩) A dLen dCap sLen sCap sz hu hsz (by omega)
    refine wp_of_run (v := .int .i64 n) (w' := w) ?_ (hK _ _ (h w (by simpa [splice] using hg) (Only.refl _ _) rfl))
    subst h0
    simp [execOp, ho, resolve, invoke, builtin, hd, hs, hrun, Result.andThen, goInt]
  · obtain ⟨b, o', rfl, hb, hc⟩ := hr.at_ (by rw [hn]; exact Nat.mul_pos h0 hpos)
    have hrun := run_copy_rowN (P := P) w dT sT o.type elem g off dLen dCap ⟨b, o', none⟩ sLen sCap sz cur.toArray t us hu hsz hg (by rw [← hmin]; exact hn) (fun j v hj => by rw [addr_add]; exact hc j v hj) (by simpa using hfit) h1
    have hb' := setRow_heap w g _ (cur.toArray.toList.take off ++ us ++ cur.toArray.toList.drop (off + us.length)).toArray t _ hg
    refine wp_of_run (v := .int .i64 n) (w' := w.setRow g (cur.toArray.toList.take off ++ us ++ cur.toArray.toList.drop (off + us.length)).toArray) ?_ (hK _ _ (h _ ?_ (only_setRow g _) (by simp [World.setRow])))
    · rw [← hmin] at hrun
      simp [execOp, ho, resolve, invoke, builtin, hd, hs, hrun, Result.andThen, goInt]
    · have e : (splice cur off us).toArray = (cur.toArray.toList.take off ++ us ++ cur.toArray.toList.drop (off + us.length)).toArray := by
        unfold splice
        rw [List.append_assoc]
      rw [e]
      exact hb'
theorem made_all (z : Array Value) (v : Value) (hz : 0 < z.size) (h : ∀ k, k < z.size → z[k]? = some v) (n : Nat) : madeCells z n = (List.replicate n v).toArray := by
  apply Array.ext
  · simp [size_madeCells]
  · intro k h1 h2
    have hk : k % z.size < z.size := Nat.mod_lt _ hz
    have h3 := h _ hk
    rw [Array.getElem?_eq_getElem hk] at h3
    injection h3 with h3
    simp [madeCells, getElem!_pos z (k % z.size) hk, h3]
theorem wpList_makeN {w : World} {ops : Array Oper} {rest : List Oper} {o : Oper} {a : Act} {Q : Exit → Act → World → Prop} (hgd : o.guard = none) (l c : Operand) {t e : TypeId} {z v : Value} {size bytes : Nat}
    (ho : o.op = .makeSlice t l c) (ht : P.underlying t = some (.slice e)) (hinfo : (P.info? e).map (fun i => (i.zero, i.size, i.bytes)) = some (some z, size, bytes)) (hzs : 0 < z.cells.size) (hzc : ∀ k, k < z.cells.size → z.cells[k]? = some v)
    (kl kc : IntKind) (L : Int) (n : Nat) (hl : a.eval l = .int kl L) (hc : a.eval c = .int kc L) (hL : L = n) (hb : bytes * n ≤ 281474976710656) (h63 : n ≤ maxLen)
    (h : ∀ w', Blk w' w.heap.size e (List.replicate (n * size) v).toArray → Below w.heap.size w w' → w'.heap.size = w.heap.size + 1 → wpList P ops Q rest (a.put o.dst (.slice (some ⟨w.heap.size, 0, none⟩) n n)) w') :
    wpList P ops Q (o :: rest) a w := by
  obtain ⟨i, hi, h1, h2, h3⟩ := info_parts hinfo
  refine wpList_plain hgd fun K hK => ?_
  subst hL
  have hb' : (i.bytes : Int) * (n : Int) ≤ 281474976710656 := by
    rw [h3]
    have h : ((bytes * n : Nat) : Int) ≤ 281474976710656 := by omega
    rwa [Int.natCast_mul] at h
  have h63' : (n : Int) ≤ 9223372036854775807 := by
    simp only [maxLen] at h63
    omega
  have hr := run_make (P := P) w t e i z ht hi h1 kl kc n n (by omega) (Int.le_refl _) hb' h63'
  simp only [Int.toNat_natCast] at hr
  rw [made_all z.cells v hzs hzc, h2] at hr
  refine wp_of_run (v := .slice (some ⟨w.heap.size, 0, none⟩) n n) ?_ (hK _ _ (h _ (Blk.new w e _) ((Below.refl _ _).alloc (Nat.le_refl _) _) (by simp)))
  unfold execOp
  simp only [ho, hl, hc, Sem.run_bind, hr, Result.andThen_ok, Sem.run_pure]
end
end

section
/- Rows of instructions: a block of them, Same, Lend, Kept. -/
open Go.RowKit

theorem insCells_set : ∀ (ls : List Ins) (i : Nat) (x : Ins), i < ls.length → ((ls.flatMap insCells).set (i * 2) (.int .i64 x.op)).set (i * 2 + 1) (.int .i64 x.a) = (ls.set i x).flatMap insCells := by
  intro ls
  induction ls with
  | nil => intro i x h; cases h
  | cons y ls ih =>
    intro i x h
    cases i with
    | zero => rfl
    | succ i =>
      rw [List.set_cons_succ, List.flatMap_cons, List.flatMap_cons, ← ih i x (by simpa using h), show (i + 1) * 2 = i * 2 + 2 from by omega]
      rfl
abbrev BlkI (w : World) (g : Nat) (ls : List Ins) : Prop := Blk w g 48 (ls.flatMap insCells).toArray
theorem BlkI.put {w : World} {g : Nat} {ls : List Ins} (h : BlkI w g ls) (i : Nat) (hi : i < ls.length) (x : Ins) : BlkI ((w.setCell ⟨g, i * 2, none⟩ (.int .i64 x.op)).setCell ⟨g, i * 2 + 1, none⟩ (.int .i64 x.a)) g (ls.set i x) := by
  have h1 := (Blk.setL h (i * 2) (.int .i64 x.op)).setL (i * 2 + 1) (.int .i64 x.a)
  rwa [insCells_set ls i x hi] at h1
theorem BlkI.at_ {w : World} {g : Nat} {ls : List Ins} (h : BlkI w g ls) (i : Nat) (hi : i < ls.length) : w.cell? ⟨g, i * 2, none⟩ = some (.int .i64 (ls[i]).op) ∧ w.cell? ⟨g, i * 2 + 1, none⟩ = some (.int .i64 (ls[i]).a) := by
  have h0 := insCells_get ls i 0 hi (by omega)
  have h1 := insCells_get ls i 1 hi (by omega)
  exact ⟨by rw [Blk.at_ h]; exact h0, by rw [Blk.at_ h]; exact h1⟩
theorem BlkI.rv {w : World} {g : Nat} {ls : List Ins} (h : BlkI w g ls) (n : Nat) (hn : n ≤ ls.length) : RV w (some ⟨g, 0, none⟩) ((ls.take n).flatMap insCells) := by
  have h1 : RV w (some ⟨g, 0, none⟩) (ls.flatMap insCells) := by simpa using RV.of_blk h
  have h2 := h1.cut 0 (n * 2)
  rw [Nat.add_zero, List.drop_zero] at h2
  have e : (ls.flatMap insCells).take (n * 2) = (ls.take n).flatMap insCells := by
    conv => lhs; rw [← List.take_append_drop n ls, List.flatMap_append]
    rw [List.take_append_of_le_length (by rw [insCells_len, List.length_take]; omega), List.take_of_length_le (by rw [insCells_len, List.length_take]; omega)]
  rwa [e] at h2
/-- Are they the same? -/
def sameB : List Ins → List Ins → Bool
  | [], [] => true
  | x :: xs, y :: ys => (x.op == y.op && x.a == y.a) && sameB xs ys
  | _, _ => false
theorem sameB_iff : ∀ xs ys : List Ins, sameB xs ys = true ↔ xs = ys := by
  intro xs
  induction xs with
  | nil => intro ys; cases ys <;> simp [sameB]
  | cons x xs ih =>
    intro ys
    cases ys with
    | nil => simp [sameB]
    | cons y ys =>
      obtain ⟨o1, a1⟩ := x
      obtain ⟨o2, a2⟩ := y
      simp only [sameB, Bool.and_eq_true, beq_iff_eq, ih, List.cons.injEq, Ins.mk.injEq]
theorem sameB_self (xs : List Ins) : sameB xs xs = true := (sameB_iff xs xs).2 rfl
theorem sameB_len : ∀ xs ys : List Ins, xs.length ≠ ys.length → sameB xs ys = false := by
  intro xs ys h
  cases hs : sameB xs ys with
  | false => rfl
  | true => exact absurd (congrArg List.length ((sameB_iff xs ys).1 hs)) h
set_option maxRecDepth 100000 in
theorem same_ins (A A' : Option Addr) (c c' : Nat) (xs ys : List Ins) (w : World) (h : RV w A (xs.flatMap insCells)) (h' : RV w A' (ys.flatMap insCells)) (hl : xs.length ≤ 9223372036854775807) (_hl' : ys.length ≤ 9223372036854775807) :
    Calls Try.prog 24 #[.slice A xs.length c, .slice A' ys.length c'] w fun e w' => e = .returned (.bool (sameB xs ys)) ∧ ∃ n, w' = w.drewN n := by
  have H := Lib.hid h
  have H' := Lib.hid h'
  clear h h'
  obtain ⟨R, hR⟩ : ∃ R, R = sameB xs ys := ⟨_, rfl⟩
  rw [← hR]
  have HR := Lib.hid hR
  clear hR
  by_cases hn : xs.length = ys.length
  · have Hn := Lib.hid hn
    rw [← hn]
    clear hn
    go_enter Try.func24, Try.ntmps24
    go_wp2_with fail
    go_loopw [5] (fun i wr => ∃ (k m : Nat), k ≤ xs.length ∧ i = .int .i64 k ∧ Hid (R = sameB (xs.drop k) (ys.drop k)) ∧ wr = w.drewN m) (fun i _ => xs.length - (intOf i).toNat)
    case atStart => exact ⟨0, 0, Nat.zero_le _, rfl, HR, rfl⟩
    case round =>
      rename World => wr
      obtain ⟨k, m, hk, rfl, hRk, rfl⟩ := hrel
      by_cases hlt : k < xs.length
      · have g1 : (k : Int) < (xs.length : Int) := by omega
        have hlt' : k < ys.length := by rw [← Hn.out]; exact hlt
        obtain ⟨b, off, rfl, hb, hc⟩ := H.out.at_ (by rw [insCells_len]; omega)
        obtain ⟨b', off', rfl, hb', hc'⟩ := H'.out.at_ (by rw [insCells_len]; omega)
        have p0 := hc _ _ (insCells_get xs k 0 hlt (by omega))
        have p1 := hc _ _ (insCells_get xs k 1 hlt (by omega))
        have q0 := hc' _ _ (insCells_get ys k 0 hlt' (by omega))
        have q1 := hc' _ _ (insCells_get ys k 1 hlt' (by omega))
        have hdx : xs.drop k = xs[k] :: xs.drop (k + 1) := List.drop_eq_getElem_cons hlt
        have hdy : ys.drop k = ys[k] :: ys.drop (k + 1) := List.drop_eq_getElem_cons hlt'
        rw [hdx, hdy] at hRk
        generalize xs[k] = x at *
        generalize ys[k] = y at *
        rw [← Nat.add_assoc] at p1 q1
        replace p0 : w.cell? ⟨b, off + k * 2, none⟩ = some (.int .i64 x.op) := p0
        replace p1 : w.cell? ⟨b, off + k * 2 + 1, none⟩ = some (.int .i64 x.a) := p1
        replace q0 : w.cell? ⟨b', off' + k * 2, none⟩ = some (.int .i64 y.op) := q0
        replace q1 : w.cell? ⟨b', off' + k * 2 + 1, none⟩ = some (.int .i64 y.a) := q1
        clear hc hc' hdx hdy
        by_cases h1 : x.op = y.op ∧ x.a = y.a
        · have hRn : Hid (R = sameB (xs.drop (k + 1)) (ys.drop (k + 1))) := by
            have e := hRk.out
            unfold sameB at e
            rw [h1.1, h1.2] at e
            exact Lib.hid (by simpa using e)
          obtain ⟨e1, e2⟩ := h1
          rw [← e1] at q0
          rw [← e2] at q1
          clear e1 e2 hRk
          go_wp2_with fail
          go_quiet (fail)
          go_wp2_with fail
          exact ⟨⟨k + 1, _, by omega, by go_num, hRn, rfl⟩, by simp [intOf]; omega⟩
        · have hRf : R = false := by
            rw [hRk.out]
            unfold sameB
            have : (x.op == y.op && x.a == y.a) = false := by
              cases hq : (x.op == y.op && x.a == y.a) with
              | false => rfl
              | true => simp only [Bool.and_eq_true, beq_iff_eq] at hq; exact absurd hq h1
            rw [this]
            rfl
          have HRf := Lib.hid hRf
          clear hRf hRk
          by_cases h2 : x.op = y.op
          · have h3 : (x.a == y.a) = false := by
              cases hq : (x.a == y.a) with
              | false => rfl
              | true => exact absurd ⟨h2, by simpa using hq⟩ h1
            rw [← h2] at q0
            clear h1 h2
            go_wp2_with fail
            go_quiet (fail)
            go_wp2_with fail
            go_ret
            exact ⟨by rw [HRf.out]; rfl, _, World.drewN_drewN ..⟩
          · have h3 : (x.op == y.op) = false := by simpa using h2
            clear h1 h2
            go_wp2_with fail
            go_quiet (fail)
            go_wp2_with fail
            go_ret
            exact ⟨by rw [HRf.out]; rfl, _, World.drewN_drewN ..⟩
      · have hRt : R = true := by rw [hRk.out, List.drop_eq_nil_of_le (by omega), List.drop_eq_nil_of_le (by rw [← Hn.out]; omega)]; rfl
        have HRt := Lib.hid hRt
        clear hRt hRk
        go_wp2_with fail
        go_ret
        exact ⟨by rw [HRt.out]; rfl, m, rfl⟩
  · have hRf : R = false := by rw [HR.out]; exact sameB_len _ _ hn
    have HRf := Lib.hid hRf
    have g1 : ¬ (xs.length : Int) = (ys.length : Int) := by omega
    clear hRf hn
    go_enter Try.func24, Try.ntmps24
    go_wp2_with fail
    go_ret
    exact ⟨by rw [HRf.out]; rfl, 0, rfl⟩
end

section
/- The law's Lend and Kept of instructions. -/
open Go.RowKit

def markI (n j : Nat) : Ins := ⟨-9, ((n + j : Nat) : Int)⟩
/-- Instructions, k marks behind them, and room that is still empty. -/
def lentI (l : List Ins) (k M : Nat) : List Ins := l ++ ((List.range k).map (markI l.length) ++ List.replicate (M - k) ⟨0, 0⟩)
theorem length_lentI (l : List Ins) (k M : Nat) (h : k ≤ M) : (lentI l k M).length = l.length + M := by
  simp only [lentI, List.length_append, List.length_map, List.length_range, List.length_replicate]; omega
theorem set_lentI (l : List Ins) (k M : Nat) (h : k < M) : (lentI l k M).set (l.length + k) (markI l.length k) = lentI l (k + 1) M := by
  obtain ⟨m, hm⟩ : ∃ m, M - k = m + 1 := ⟨M - k - 1, by omega⟩
  have hm' : M - (k + 1) = m := by omega
  unfold lentI
  rw [hm, hm', List.set_append_right _ _ (by omega), Nat.add_sub_cancel_left, List.set_append_right _ _ (by simp), List.length_map, List.length_range, Nat.sub_self, List.replicate_succ, List.set_cons_zero, List.range_succ, List.map_append, List.append_assoc]
  rfl
theorem zeros_flat (k : Nat) : List.replicate (k * 2) (Value.int .i64 0) = (List.replicate k (⟨0, 0⟩ : Ins)).flatMap insCells := by
  induction k with
  | zero => rfl
  | succ k ih => rw [List.replicate_succ, List.flatMap_cons, ← ih, Nat.succ_mul, List.replicate_succ, List.replicate_succ]; rfl
theorem splice_zerosI (l : List Ins) (M : Nat) : splice (List.replicate ((l.length + M) * 2) (Value.int .i64 0)) 0 (l.flatMap insCells) = (lentI l 0 M).flatMap insCells := by
  unfold splice lentI
  rw [List.take_zero, List.nil_append, Nat.zero_add, insCells_len, List.drop_replicate, List.flatMap_append, show (l.length + M) * 2 - l.length * 2 = M * 2 from by omega, zeros_flat]
  rfl
theorem lentI_mark (l : List Ins) (k M : Nat) (h : k < M) : (lentI l M M)[l.length + k]? = some (markI l.length k) := by
  unfold lentI
  rw [List.getElem?_append_right (by omega), Nat.add_sub_cancel_left, List.getElem?_append_left (by simpa using h), List.getElem?_map, List.getElem?_range h]
  rfl
def LendIPost (w : World) (l : List Ins) (e : Ending) (w' : World) : Prop :=
  ∃ g, e = .returned (.slice (some ⟨g, 0, none⟩) l.length (l.length + 67)) ∧ BlkI w' g (lentI l 67 67) ∧ w.heap.size ≤ g ∧ Below w.heap.size w w'
theorem ins_size : (Try.prog.info? 48).map (·.size) = some 2 := by kernel_rfl
set_option maxRecDepth 100000 in
theorem lend_ins (A : Option Addr) (c : Nat) (l : List Ins) (w : World) (h : RV w A (l.flatMap insCells)) (hl : l.length ≤ 8796093021952) :
    Calls Try.prog 16 #[.slice A l.length c] w (LendIPost w l) := by
  have H := Lib.hid h
  clear h
  go_enter Try.func16, Try.ntmps16
  go_wp2_with (first
    | (refine wpList_makeN rfl (.tmp 7) (.tmp 7) (v := .int .i64 0) rfl Try.underlying30 ins_info (by decide) (by intro k hk; match k, hk with | 0, _ => rfl | 1, _ => rfl) .i64 .i64 _ (l.length + 67) rfl rfl (by simp) (by omega) (by unfold maxLen; omega) ?_; intro w1 hblk hb1 hz1)
    | (refine wpList_copyN rfl (.tmp 9) (.tmp 10) rfl Try.underlying30 ins_size (by decide) (g := w.heap.size) (off := 0) (n := l.length) rfl rfl hblk (H.out.below hb1) (insCells_len l) (by simp [Nat.min_def]) (by rw [insCells_len, List.length_replicate]; omega) (ins_one l) ?_; intro w2 hblk2 ho2 hz2))
  have hblk2' := hblk2
  rw [splice_zerosI] at hblk2'
  have hB2 : Below w.heap.size w w2 := hb1.trans (ho2.below hb1.size fun k hk => by omega)
  clear hblk hblk2 ho2
  go_loopw [4] (fun i wr => ∃ k : Nat, k ≤ 67 ∧ i = .int .i64 ((l.length + k : Nat) : Int) ∧ BlkI wr w.heap.size (lentI l k 67) ∧ Below w.heap.size w wr) (fun i _ => l.length + 67 - (intOf i).toNat)
  case atStart => exact ⟨0, by omega, by simp, hblk2', hB2⟩
  case round =>
    obtain ⟨k, hk, rfl, hblk, hB⟩ := hrel
    by_cases hlt : k < 67
    · have hlk : l.length + k < (lentI l k 67).length := by rw [length_lentI l k 67 hk]; omega
      obtain ⟨hc0, hc1⟩ := BlkI.at_ hblk (l.length + k) hlk
      have hf0 := hblk.frozen ((l.length + k) * 2)
      have hf1 := hblk.frozen ((l.length + k) * 2 + 1)
      have hb2 := BlkI.put hblk (l.length + k) hlk (markI l.length k)
      rw [set_lentI l k 67 hlt] at hb2
      have Hb2 := Lib.hid hb2
      generalize (lentI l k 67)[l.length + k] = y at *
      clear hb2
      go_wp2
      exact ⟨⟨k + 1, by omega, by go_num, Hb2.out, (hB.setCell (Nat.le_refl _) _).setCell (Nat.le_refl _) _⟩, by simp [intOf]; omega⟩
    · obtain rfl : k = 67 := by omega
      go_wp2
      go_ret
      exact ⟨w.heap.size, rfl, hblk, Nat.le_refl _, hB⟩
set_option maxRecDepth 100000 in
/-- Lent instructions are as they were, and are written over: nothing beside their block turns. -/
theorem kept_ins (A : Option Addr) (c g : Nat) (l : List Ins) (w : World) (h : RV w A (l.flatMap insCells)) (hblk : BlkI w g (lentI l 67 67)) (hl : l.length ≤ 8796093021952) :
    Calls Try.prog 19 #[.slice (some ⟨g, 0, none⟩) l.length (l.length + 67), .slice A l.length c] w fun e w' => e = .returned (.bool true) ∧ Only (fun k => k = g) w w' := by
  have hlent : RV w (some ⟨g, 0, none⟩) (l.flatMap insCells) := by
    have h1 := BlkI.rv hblk l.length (by rw [length_lentI _ _ _ (Nat.le_refl _)]; omega)
    rwa [show (lentI l 67 67).take l.length = l from by unfold lentI; rw [List.take_append_of_le_length (Nat.le_refl _), List.take_length]] at h1
  have hs := same_ins (some ⟨g, 0, none⟩) A (l.length + 67) c l l w hlent h (by omega) (by omega)
  rw [sameB_self] at hs
  have Hs := Lib.hid hs
  clear hs hlent h
  go_enter Try.func19, Try.ntmps19
  go_wp2_with fail
  refine Hs.out.mono ?_
  rintro e w1 ⟨rfl, n, rfl⟩
  have hblk1 : BlkI (w.drewN n) g (lentI l 67 67) := hblk
  go_wp2_with fail
  go_loop [5, 7] (fun r i => r = .bool true ∧ ∃ k : Nat, k ≤ 67 ∧ i = .int .i64 ((l.length + k : Nat) : Int)) (fun _ i => l.length + 67 - (intOf i).toNat)
  case atStart => exact ⟨rfl, 0, by omega, rfl⟩
  case round =>
    obtain ⟨rfl, k, hk, rfl⟩ := hrel
    by_cases hlt : k < 67
    · have hlk : l.length + k < (lentI l 67 67).length := by rw [length_lentI l 67 67 (Nat.le_refl _)]; omega
      obtain ⟨hc0, hc1⟩ := BlkI.at_ hblk (l.length + k) hlk
      have hm := lentI_mark l k 67 hlt
      rw [List.getElem?_eq_getElem hlk] at hm
      injection hm with hm
      rw [hm] at hc0 hc1
      replace hc0 : w.cell? ⟨g, (l.length + k) * 2, none⟩ = some (.int .i64 (-9)) := hc0
      replace hc1 : w.cell? ⟨g, (l.length + k) * 2 + 1, none⟩ = some (.int .i64 ((l.length + k : Nat) : Int)) := hc1
      clear hm
      go_wp2
      exact ⟨⟨rfl, k + 1, by omega, by go_num⟩, by simp [intOf]; omega⟩
    · obtain rfl : k = 67 := by omega
      go_wp2
      go_loopw [8] (fun i wr => ∃ (k : Nat) (ls : List Ins), k ≤ l.length + 67 ∧ i = .int .i64 k ∧ Hid (ls.length = l.length + 67) ∧ BlkI wr g ls ∧ Only (fun k => k = g) w wr) (fun i _ => l.length + 67 - (intOf i).toNat)
      case atStart => exact ⟨0, _, Nat.zero_le _, rfl, length_lentI l 67 67 (Nat.le_refl _), hblk1, Only.of_fresh (below_drewN (Below.refl _ _) _)⟩
      case round =>
        obtain ⟨j, ls, hj, rfl, hls, hb, hO⟩ := hrel
        by_cases hltj : j < l.length + 67
        · have hlj : j < ls.length := by rw [hls.out]; exact hltj
          obtain ⟨hc0, hc1⟩ := BlkI.at_ hb j hlj
          have hf0 := hb.frozen (j * 2)
          have hf1 := hb.frozen (j * 2 + 1)
          have hbs := Lib.hid (BlkI.put hb j hlj ⟨77, -7⟩)
          generalize ls[j] = y at *
          go_wp2
          exact ⟨⟨j + 1, _, by omega, by go_num, by show List.length _ = _; rw [List.length_set]; exact hls.out, hbs.out, (hO.setCell (.inl rfl) _).setCell (.inl rfl) _⟩, by simp [intOf]; omega⟩
        · go_wp2
          go_ret
          exact ⟨rfl, hO⟩
end

section
/- The law's known: two instructions as bytes and back. -/
open Go.RowKit

theorem wpList_bytesStrG {P : Program} {w : World} {ops : Array Oper} {rest : List Oper} {o : Oper} {a : Act} {Q : Exit → Act → World → Prop} (hw : Region.wanted o (yielded ops a.tmps) = true) (x : Operand) {src dst e : TypeId} {A : Option Addr} {c : Nat} {ys : List UInt8} (ho : o.op = .convert src dst x) (hx : a.eval x = .slice A ys.length c)
    (hr : RV w A (ys.map bv)) (hs : P.underlying src = some (.slice e)) (he : P.underlying e = some (.int .u8)) (hd : P.underlying dst = some .string)
    (h : wpList P ops Q rest (a.put o.dst (.string ⟨ys.toArray⟩)) w) : wpList P ops Q (o :: rest) a w := by
  refine wpList_runG hw (.string ⟨ys.toArray⟩) ?_ h
  unfold execOp
  simp only [ho, hx, Sem.run_bind, run_bytesStr (P := P) (c := c) hr hs he hd, Result.andThen_ok, Sem.run_pure]
def knownI : List Ins := [⟨3, -1⟩, ⟨18, 0⟩]
theorem enc_known : encL knownI = ([3, 1, 18], 0) := by kernel_rfl
theorem dec_known : decL [3, 1, 18] = (knownI, 0) := by kernel_rfl
set_option maxRecDepth 100000 in
theorem known_any (w : World) : Calls Try.prog 15 #[] w fun e w' => e = .returned (.bool true) ∧ Below w.heap.size w w' := by
  go_enter Try.func15, Try.ntmps15
  go_wp2_with fail
  obtain ⟨w1, hw1⟩ : ∃ w1, w1 = w.alloc (.cells #[.int .i64 3, .int .i64 (-1), .int .i64 18, .int .i64 0] 48) := ⟨_, rfl⟩
  rw [← hw1]
  have hb1 : Below w.heap.size w w1 := by rw [hw1]; exact (Below.refl _ _).alloc (Nat.le_refl _) _
  have hB1 : BlkI w1 w.heap.size knownI := by rw [hw1]; exact Blk.new w _ _
  have hz1 : w.heap.size < w1.heap.size := hB1.lt
  have hr1 : RV w1 (some ⟨w.heap.size, 0, none⟩) (knownI.flatMap insCells) := BlkI.rv hB1 2 (by decide)
  have henc := encode_any (some ⟨w.heap.size, 0, none⟩) 2 knownI w1 hr1 (by intro i hi; simp only [knownI, List.mem_cons, List.not_mem_nil, or_false] at hi; rcases hi with rfl | rfl <;> exact ⟨by decide, by decide, by decide, by decide⟩) (by decide)
  rw [enc_known] at henc
  have Henc := Lib.hid henc
  have HB1 := Lib.hid hB1
  have Hb1 := Lib.hid hb1
  clear hw1 hb1 hB1 hr1 henc
  refine Henc.out.mono ?_
  intro e w2 hpost
  obtain ⟨A2, c2, rfl, hown2, hb2⟩ := hpost
  have hz2 := hb2.size
  have Hb2 := Lib.hid (Hb1.out.trans (hb2.mono (by omega)))
  have HB2 := Lib.hid (HB1.out.below hb2 hz1)
  have Hown2 := Lib.hid hown2
  clear hb2 hown2 Henc
  go_wp2_with fail
  obtain ⟨w3, hw3⟩ : ∃ w3, w3 = w2.alloc (.cells #[.int .u8 3, .int .u8 1, .int .u8 18] 5) := ⟨_, rfl⟩
  rw [← hw3]
  have hb23 : Below w2.heap.size w2 w3 := by rw [hw3]; exact (Below.refl _ _).alloc (Nat.le_refl _) _
  have hB3 : Blk w3 w2.heap.size 5 #[.int .u8 3, .int .u8 1, .int .u8 18] := by rw [hw3]; exact Blk.new w2 _ _
  have hs3 : Sl w3 ⟨some ⟨w2.heap.size, 0, none⟩, 3, [3, 1, 18]⟩ := ⟨RV.of_blk hB3, fun h => by cases h⟩
  have hdec := decode_any (some ⟨w2.heap.size, 0, none⟩) 3 [3, 1, 18] w3 hs3 (by decide)
  rw [dec_known] at hdec
  have Hdec := Lib.hid hdec
  have hz3 := hb23.size
  have Hb3 := Lib.hid (Hb2.out.trans (hb23.mono (by omega)))
  have HB3 := Lib.hid (HB2.out.below hb23 (by omega))
  have Hown3 := Lib.hid (Own.below Hown2.out hb23 (Nat.le_refl _))
  clear hw3 hb23 hB3 hs3 hdec
  refine Hdec.out.mono ?_
  intro e w4 hpost
  obtain ⟨A4, c4, rfl, hown4, hb4⟩ := hpost
  have hz4 := hb4.size
  have Hb4 := Lib.hid (Hb3.out.trans (hb4.mono (by omega)))
  have HB4 := Lib.hid (HB3.out.below hb4 (by omega))
  have hrv4 := RV.of_own (Own.below Hown3.out hb4 (Nat.le_refl _))
  have hsame := same_ins (some ⟨w.heap.size, 0, none⟩) A4 2 c4 knownI knownI w4 (BlkI.rv HB4.out 2 (by decide)) (RV.of_own hown4) (by decide) (by decide)
  rw [sameB_self] at hsame
  have Hrv4 := Lib.hid hrv4
  have Hsame := Lib.hid hsame
  clear hb4 hown4 Hdec hrv4 hsame
  go_wp2_with (refine wpList_at 27 rfl ?_; refine wpList_bytesStrG rfl (.tmp 26) (A := A2) (c := c2) (ys := [3, 1, 18]) rfl rfl Hrv4.out Try.underlying32 Try.underlying5 Try.underlying9 ?_)
  refine Hsame.out.mono ?_
  rintro e w5 ⟨rfl, m, rfl⟩
  go_wp2_with fail
  go_ret
  exact ⟨rfl, below_drewN Hb4.out m⟩
end
end Go.Proofs.Ytmmdkpnoncnjnaa
