/- The law's lend of a program: what it leaves, plain. -/
import Derived.Test.YtcmpmhlcfalbhaaPrgS
import Derived.Test.YtcmpmhlcfalbhaaLendP
import Derived.Test.YtcmpmhlcfalbhaaInsJ
namespace Go.Proofs.Ytcmpmhlcfalbhaa
open Go.RowKit

abbrev zeroF : FunM := ⟨0, 0, 0, none, 0, []⟩
abbrev markF : FunM := ⟨-9, 0, 0, none, 0, []⟩
abbrev BlkF (w : World) (g : Nat) (ls : List FunM) : Prop := Blk w g 43 (ls.flatMap funCells).toArray
theorem funCells_set : ∀ (ls : List FunM) (i : Nat) (x : FunM), i < ls.length →
    ((((ls.flatMap funCells).set (i * 4) (.int .i64 x.args)).set (i * 4 + 1) (.int .i64 x.locals)).set (i * 4 + 2) (.int .i64 x.results)).set (i * 4 + 3) (.slice x.A x.code.length x.c) = (ls.set i x).flatMap funCells := by
  intro ls
  induction ls with
  | nil => intro i x h; cases h
  | cons y ls ih =>
    intro i x h
    cases i with
    | zero => rfl
    | succ i =>
      rw [List.set_cons_succ, List.flatMap_cons, List.flatMap_cons, ← ih i x (by simpa using h), show (i + 1) * 4 = i * 4 + 4 from by omega]
      rfl
theorem funCells_set3 : ∀ (ls : List FunM) (i : Nat) (x : FunM) (A : Option Addr) (c : Nat) (l : List Ins), ls[i]? = some x →
    (ls.flatMap funCells).set (i * 4 + 3) (.slice A l.length c) = (ls.set i ⟨x.args, x.locals, x.results, A, c, l⟩).flatMap funCells := by
  intro ls
  induction ls with
  | nil => intro i x A c l h; cases h
  | cons y ls ih =>
    intro i x A c l h
    cases i with
    | zero => simp at h; subst h; rfl
    | succ i =>
      rw [List.set_cons_succ, List.flatMap_cons, List.flatMap_cons, ← ih i x A c l (by simpa using h), show (i + 1) * 4 + 3 = (i * 4 + 3) + 4 from by omega]
      rfl
theorem BlkF.put {w : World} {g : Nat} {ls : List FunM} (h : BlkF w g ls) (i : Nat) (hi : i < ls.length) (x : FunM) :
    BlkF ((((w.setCell ⟨g, i * 4, none⟩ (.int .i64 x.args)).setCell ⟨g, i * 4 + 1, none⟩ (.int .i64 x.locals)).setCell ⟨g, i * 4 + 2, none⟩ (.int .i64 x.results)).setCell ⟨g, i * 4 + 3, none⟩ (.slice x.A x.code.length x.c)) g (ls.set i x) := by
  have h1 := (((Blk.setL h (i * 4) (.int .i64 x.args)).setL (i * 4 + 1) (.int .i64 x.locals)).setL (i * 4 + 2) (.int .i64 x.results)).setL (i * 4 + 3) (.slice x.A x.code.length x.c)
  rwa [funCells_set ls i x hi] at h1
theorem BlkF.put3 {w : World} {g : Nat} {ls : List FunM} (h : BlkF w g ls) (i : Nat) (x : FunM) (hi : ls[i]? = some x) (A : Option Addr) (c : Nat) (l : List Ins) :
    BlkF (w.setCell ⟨g, i * 4 + 3, none⟩ (.slice A l.length c)) g (ls.set i ⟨x.args, x.locals, x.results, A, c, l⟩) := by
  have h1 := Blk.setL h (i * 4 + 3) (.slice A l.length c)
  rwa [funCells_set3 ls i x A c l hi] at h1
theorem BlkF.at_ {w : World} {g : Nat} {ls : List FunM} (h : BlkF w g ls) (i : Nat) (hi : i < ls.length) :
    w.cell? ⟨g, i * 4, none⟩ = some (.int .i64 ls[i].args) ∧ w.cell? ⟨g, i * 4 + 1, none⟩ = some (.int .i64 ls[i].locals) ∧ w.cell? ⟨g, i * 4 + 2, none⟩ = some (.int .i64 ls[i].results) ∧ w.cell? ⟨g, i * 4 + 3, none⟩ = some (.slice ls[i].A ls[i].code.length ls[i].c) := by
  have h0 := funCells_get ls i 0 hi (by omega)
  have h1 := funCells_get ls i 1 hi (by omega)
  have h2 := funCells_get ls i 2 hi (by omega)
  have h3 := funCells_get ls i 3 hi (by omega)
  exact ⟨by rw [Blk.at_ h]; exact h0, by rw [Blk.at_ h]; exact h1, by rw [Blk.at_ h]; exact h2, by rw [Blk.at_ h]; exact h3⟩
theorem BlkF.rv {w : World} {g : Nat} {ls : List FunM} (h : BlkF w g ls) (n : Nat) (hn : n ≤ ls.length) : RV w (some ⟨g, 0, none⟩) ((ls.take n).flatMap funCells) := by
  have h1 : RV w (some ⟨g, 0, none⟩) (ls.flatMap funCells) := by simpa using RV.of_blk h
  have h2 := h1.cut 0 (n * 4)
  rw [Nat.add_zero, List.drop_zero] at h2
  have e : (ls.flatMap funCells).take (n * 4) = (ls.take n).flatMap funCells := by
    conv => lhs; rw [← List.take_append_drop n ls, List.flatMap_append]
    rw [List.take_append_of_le_length (by rw [funCells_len, List.length_take]; omega), List.take_of_length_le (by rw [funCells_len, List.length_take]; omega)]
  rwa [e] at h2
theorem only_put4 (w : World) (g i : Nat) (u0 u1 u2 u3 : Value) : Only (fun b => b = g) w ((((w.setCell ⟨g, i * 4, none⟩ u0).setCell ⟨g, i * 4 + 1, none⟩ u1).setCell ⟨g, i * 4 + 2, none⟩ u2).setCell ⟨g, i * 4 + 3, none⟩ u3) :=
  ((((Only.refl (fun b => b = g) w).setCell (p := ⟨g, i * 4, none⟩) (.inl rfl) u0).setCell (p := ⟨g, i * 4 + 1, none⟩) (.inl rfl) u1).setCell (p := ⟨g, i * 4 + 2, none⟩) (.inl rfl) u2).setCell (p := ⟨g, i * 4 + 3, none⟩) (.inl rfl) u3
theorem set_lentRow (hs : List FunM) (r : Nat) (x y : FunM) (k : Nat) (hk : hs.length = k) : ((hs ++ List.replicate (r + 1) zeroF).set k x).set k y = hs ++ y :: List.replicate r zeroF := by
  subst hk
  rw [List.set_set, List.set_append_right _ _ (Nat.le_refl _), Nat.sub_self, List.replicate_succ, List.set_cons_zero]
theorem set_markRow (hs : List FunM) (j : Nat) (hj : j < 2) : (hs ++ (List.replicate j markF ++ List.replicate (2 - j) zeroF)).set (hs.length + j) markF = hs ++ (List.replicate (j + 1) markF ++ List.replicate (2 - (j + 1)) zeroF) := by
  rw [List.set_append_right _ _ (by omega), Nat.add_sub_cancel_left]
  match j, hj with
  | 0, _ => rfl
  | 1, _ => rfl
theorem func_info : (Try.prog.info? 43).map (fun i => (i.zero, i.size, i.bytes)) = some (some (.agg #[.int .i64 0, .int .i64 0, .int .i64 0, .slice none 0 0]), 4, 48) := by kernel_rfl
theorem made_get (z : Array Value) (n k : Nat) (h : k < (madeCells z n).size) (hz : k % z.size < z.size) : (madeCells z n)[k] = z[k % z.size] := by simp [madeCells, getElem!_pos z (k % z.size) hz]
theorem made_funs (n : Nat) : madeCells #[.int .i64 0, .int .i64 0, .int .i64 0, .slice none 0 0] (n * 4) = ((List.replicate n zeroF).flatMap funCells).toArray := by
  apply Array.ext
  · simp only [size_madeCells, List.size_toArray, funCells_len, List.length_replicate]
  · intro k h1 h2
    have h3 : k < n * 4 := by simpa only [List.size_toArray, funCells_len, List.length_replicate] using h2
    have hq : k / 4 < (List.replicate n zeroF).length := by rw [List.length_replicate]; omega
    have h4 := funCells_get (List.replicate n zeroF) (k / 4) (k % 4) hq (Nat.mod_lt _ (by omega))
    rw [show k / 4 * 4 + k % 4 = k from by omega, List.getElem_replicate] at h4
    have h5 : ((List.replicate n zeroF).flatMap funCells).toArray[k] = ((List.replicate n zeroF).flatMap funCells)[k]'(by simpa using h2) := by simp
    rw [List.getElem?_eq_getElem (by simpa using h2)] at h4
    rw [h5]
    have h6 : k % 4 < 4 := Nat.mod_lt _ (by omega)
    have h7 : ∀ j, j < 4 → (#[Value.int .i64 0, .int .i64 0, .int .i64 0, .slice none 0 0] : Array Value)[j]? = (funCells zeroF)[j]? := by
      intro j hj
      match j, hj with
      | 0, _ => rfl
      | 1, _ => rfl
      | 2, _ => rfl
      | 3, _ => rfl
    rw [← h7 _ h6] at h4
    have h8 : (#[Value.int .i64 0, .int .i64 0, .int .i64 0, .slice none 0 0] : Array Value)[k % 4]? = some ((#[Value.int .i64 0, .int .i64 0, .int .i64 0, .slice none 0 0] : Array Value)[k % 4]'h6) := by
      exact Array.getElem?_eq_getElem h6
    rw [h8] at h4
    injection h4 with h4
    rw [h4]
    exact made_get _ _ _ h1 h6
theorem wpList_makeF {w : World} {ops : Array Oper} {rest : List Oper} {o : Oper} {a : Act} {Q : Exit → Act → World → Prop} (hgd : o.guard = none) (l c : Operand)
    (ho : o.op = .makeSlice 24 l c) (L : Int) (n : Nat) (hl : a.eval l = .int .i64 L) (hc : a.eval c = .int .i64 L) (hL : L = n) (hb : 48 * n ≤ 281474976710656)
    (h : ∀ w', BlkF w' w.heap.size (List.replicate n zeroF) → Below w.heap.size w w' → w'.heap.size = w.heap.size + 1 → wpList Try.prog ops Q rest (a.put o.dst (.slice (some ⟨w.heap.size, 0, none⟩) n n)) w') :
    wpList Try.prog ops Q (o :: rest) a w := by
  obtain ⟨i, hi, h1, h2, h3⟩ := info_parts func_info
  refine wpList_plain hgd fun K hK => ?_
  subst hL
  have hb' : (i.bytes : Int) * (n : Int) ≤ 281474976710656 := by
    rw [h3]
    omega
  have hr := run_make (P := Try.prog) w 24 43 i _ Try.underlying24 hi h1 .i64 .i64 n n (by omega) (Int.le_refl _) hb' (by omega)
  simp only [Int.toNat_natCast] at hr
  rw [show (Value.agg #[Value.int .i64 0, .int .i64 0, .int .i64 0, .slice none 0 0]).cells = #[Value.int .i64 0, .int .i64 0, .int .i64 0, .slice none 0 0] from rfl, h2, made_funs] at hr
  refine wp_of_run (v := .slice (some ⟨w.heap.size, 0, none⟩) n n) ?_ (hK _ _ (h _ (Blk.new w _ _) ((Below.refl _ _).alloc (Nat.le_refl _) _) (by simp)))
  unfold execOp
  simp only [ho, hl, hc, Sem.run_bind, hr, Result.andThen_ok, Sem.run_pure]
/-! ### What is lent -/
/-- A function's code, k marks behind it, and room that is still empty. -/
def lentC (l : List Ins) (k : Nat) : List Ins := l ++ (List.replicate k ⟨-9, 0⟩ ++ List.replicate (3 - k) ⟨0, 0⟩)
theorem length_lentC (l : List Ins) (k : Nat) (h : k ≤ 3) : (lentC l k).length = l.length + 3 := by
  simp only [lentC, List.length_append, List.length_replicate]; omega
theorem set_lentC (l : List Ins) (k : Nat) (h : k < 3) : (lentC l k).set (l.length + k) ⟨-9, 0⟩ = lentC l (k + 1) := by
  obtain ⟨m, hm⟩ : ∃ m, 3 - k = m + 1 := ⟨3 - k - 1, by omega⟩
  have hm' : 3 - (k + 1) = m := by omega
  unfold lentC
  rw [hm, hm', List.set_append_right _ _ (by omega), Nat.add_sub_cancel_left, List.set_append_right _ _ (by simp), List.length_replicate, Nat.sub_self, List.replicate_succ, List.set_cons_zero, List.replicate_succ', List.append_assoc]
  rfl
theorem splice_zerosC (l : List Ins) : splice (List.replicate ((l.length + 3) * 2) (Value.int .i64 0)) 0 (l.flatMap insCells) = (lentC l 0).flatMap insCells := by
  unfold splice lentC
  rw [List.take_zero, List.nil_append, Nat.zero_add, insCells_len, List.drop_replicate, List.flatMap_append, show (l.length + 3) * 2 - l.length * 2 = 3 * 2 from by omega, zeros_flat]
  rfl
theorem lentC_mark (l : List Ins) (k : Nat) (h : k < 3) : (lentC l 3)[l.length + k]? = some ⟨-9, 0⟩ := by
  unfold lentC
  rw [List.getElem?_append_right (by omega), Nat.add_sub_cancel_left, List.getElem?_append_left (by simpa using h), List.getElem?_replicate, if_pos h]
theorem lentC_take (l : List Ins) : (lentC l 3).take l.length = l := by
  unfold lentC
  rw [List.take_append_of_le_length (Nat.le_refl _), List.take_length]
/-- A function that was lent. -/
def LentF (w : World) (base gf : Nat) (f g : FunM) : Prop :=
  ∃ b, g = ⟨f.args, f.locals, f.results, some ⟨b, 0, none⟩, f.code.length + 3, f.code⟩ ∧ BlkI w b (lentC f.code 3) ∧ base ≤ b ∧ b ≠ gf
def LentR (w : World) (base gf : Nat) (fs hs : List FunM) : Prop := ∀ (j : Nat) (g : FunM), hs[j]? = some g → ∃ f, fs[j]? = some f ∧ LentF w base gf f g
theorem LentR.keep {w w' : World} {base gf : Nat} {fs hs : List FunM} (h : LentR w base gf fs hs) (S : Nat → Prop) (ho : Only S w w') (hS : ∀ b, base ≤ b → b < w.heap.size → S b → b = gf) : LentR w' base gf fs hs := by
  intro j g hj
  obtain ⟨f, hf, b, e, hb, h1, h2⟩ := h j g hj
  exact ⟨f, hf, b, e, hb.only ho (fun hs => h2 (hS b h1 hb.lt hs)), h1, h2⟩
theorem LentR.mono {w : World} {base base' gf : Nat} {fs hs : List FunM} (h : LentR w base gf fs hs) (hb : base' ≤ base) : LentR w base' gf fs hs := by
  intro j g hj
  obtain ⟨f, hf, b, e, hb', h1, h2⟩ := h j g hj
  exact ⟨f, hf, b, e, hb', Nat.le_trans hb h1, h2⟩
theorem LentR.push {w : World} {base gf : Nat} {fs hs : List FunM} (h : LentR w base gf fs hs) {f g : FunM} (hf : fs[hs.length]? = some f) (hg : LentF w base gf f g) : LentR w base gf fs (hs ++ [g]) := by
  intro j x hj
  by_cases h1 : j < hs.length
  · rw [List.getElem?_append_left h1] at hj
    exact h j x hj
  · rw [List.getElem?_append_right (by omega)] at hj
    obtain h2 | h2 : j - hs.length = 0 ∨ 0 < j - hs.length := by omega
    · rw [h2] at hj
      injection hj with hj
      subst hj
      rw [show j = hs.length from by omega]
      exact ⟨f, hf, hg⟩
    · rw [List.getElem?_eq_none (by rw [List.length_singleton]; exact h2)] at hj
      cases hj
structure LentAt (w : World) (base : Nat) (p q : PrgM) (gd gf : Nat) : Prop where
  mem : q.mem = p.mem
  data : q.data = p.data
  AD : q.AD = some ⟨gd, 0, none⟩
  cD : q.cD = p.data.length + 5
  bd : Blk w gd 5 ((lentP p.data).map bv).toArray
  AF : q.AF = some ⟨gf, 0, none⟩
  cF : q.cF = p.fs.length + 2
  flen : q.fs.length = p.fs.length
  bf : BlkF w gf (q.fs ++ [markF, markF])
  row : LentR w base gf p.fs q.fs
  b1 : base ≤ gd
  b2 : base ≤ gf
theorem LentAt.below {w w' : World} {base gd gf : Nat} {p q : PrgM} (h : LentAt w base p q gd gf) (hb : Below w.heap.size w w') : LentAt w' base p q gd gf :=
  ⟨h.mem, h.data, h.AD, h.cD, h.bd.below hb h.bd.lt, h.AF, h.cF, h.flen, h.bf.below hb h.bf.lt, h.row.keep (fun _ => False) (Only.of_below hb fun _ hk _ => hk) (fun _ _ _ h => h.elim), h.b1, h.b2⟩
theorem LentAt.same {w : World} {base gd gf : Nat} {p q : PrgM} (h : LentAt w base p q gd gf) : q.plain = p.plain := by
  have e : q.fs.map FunM.plain = p.fs.map FunM.plain := by
    apply List.ext_getElem?
    intro j
    rw [List.getElem?_map, List.getElem?_map]
    cases hq : q.fs[j]? with
    | none =>
      have h1 : q.fs.length ≤ j := List.getElem?_eq_none_iff.1 hq
      rw [List.getElem?_eq_none (by rw [← h.flen]; exact h1)]
    | some g =>
      obtain ⟨f, hf, b, e, -⟩ := h.row j g hq
      rw [hf, e]
      rfl
  unfold PrgM.plain
  rw [h.mem, h.data, e]
theorem LentAt.at_ {w w0 : World} {base gd gf : Nat} {p q : PrgM} (h : LentAt w base p q gd gf) (hp : PrgAt w0 p) : PrgAt w q := by
  have hd : RV w (some ⟨gd, 0, none⟩) (p.data.map bv) := by
    have h1 := (RV.of_blk h.bd).cut 0 p.data.length
    rw [List.drop_zero, ← List.map_take] at h1
    unfold lentP at h1
    rwa [List.take_append_of_le_length (Nat.le_refl _), List.take_length] at h1
  have hf : RV w (some ⟨gf, 0, none⟩) (q.fs.flatMap funCells) := by
    have h1 := BlkF.rv h.bf q.fs.length (by simp)
    rwa [List.take_append_of_le_length (Nat.le_refl _), List.take_length] at h1
  refine ⟨⟨?_, ?_⟩, ?_, ?_, ?_, ?_, ?_, ?_, ?_⟩
  · rw [h.AD, h.data]; exact hd
  · intro e; rw [h.AD] at e; cases e
  · rw [h.data]; exact hp.dlen
  · rw [h.AF]; exact hf
  · intro e; rw [h.AF] at e; cases e
  · rw [h.flen]; exact hp.flen
  · intro g hg
    obtain ⟨j, hj, e⟩ := List.getElem_of_mem hg
    obtain ⟨f, hf, b, rfl, hb, -⟩ := h.row j g (by rw [List.getElem?_eq_getElem hj, e])
    have hF := hp.funs f (List.mem_of_getElem? hf)
    have hr := BlkI.rv hb f.code.length (by rw [length_lentC _ _ (Nat.le_refl _)]; omega)
    rw [lentC_take] at hr
    exact ⟨hr, hF.ok, (fun e => by cases e), hF.len, hF.a1, hF.a2, hF.l1, hF.l2, hF.r1, hF.r2⟩
  · rw [h.mem]; exact hp.m1
  · rw [h.mem]; exact hp.m2
end Go.Proofs.Ytcmpmhlcfalbhaa
