/- copy and make of elements of several cells. -/
import Derived.Test.YtmmdkpnoncnjnaaBaseB
import Derived.Laws.CopyRow
namespace Go.Proofs.Ytmmdkpnoncnjnaa
open Go.RowKit

section
variable {P : Program}
theorem run_copy_rowN (w : World) (dT sT ty elem : TypeId) (g o dLen dCap : Nat) (a : Addr) (sLen sCap sz : Nat) (cur : Array Value) (t : TypeId) (cs : List Value)
    (hu : P.underlying dT = some (.slice elem)) (hs : (P.info? elem).map (·.size) = some sz)
    (hg : w.heap[g]? = some (.cells cur t (0, 0))) (hn : cs.length = Nat.min sLen dLen * sz)
    (hsrc : ∀ j v, cs[j]? = some v → w.cell? (a.add j) = some v) (hfit : o + cs.length ≤ cur.size) (h1 : ∀ v ∈ cs, v.oneCell' = true) :
    (Builtin.copy_ #[dT, sT] ty #[.slice (some ⟨g, o, none⟩) dLen dCap, .slice (some a) sLen sCap]).run P w =
      .ok (goInt (Nat.min sLen dLen)) (w.setRow g (cur.toList.take o ++ cs ++ cur.toList.drop (o + cs.length)).toArray) := by
  have hl := run_loadCells_list (P := P) w a cs hsrc
  have hst := run_storeCells_at P g o t cs 0 cur w hg (by simpa using hfit) h1
  cases hq : P.info? elem with
  | none => simp [hq] at hs
  | some i =>
    have hi : i.size = sz := by simpa [hq] using hs
    simp [Builtin.copy_, run_underlying hu, Builtin.lenOf, Builtin.firstCells, sizeOf, typeInfo, hq, hi, ← hn, hl, hst]
theorem run_copy_noneN (w : World) (dT sT ty elem : TypeId) (d a : Option Addr) (dLen dCap sLen sCap sz : Nat) (hu : P.underlying dT = some (.slice elem)) (hs : (P.info? elem).map (·.size) = some sz) (hn : Nat.min sLen dLen = 0) :
    (Builtin.copy_ #[dT, sT] ty #[.slice d dLen dCap, .slice a sLen sCap]).run P w = .ok (goInt 0) w := by
  cases hq : P.info? elem with
  | none => simp [hq] at hs
  | some i =>
    have hl : ∀ (x : Addr), (loadCells x 0).run P w = .ok #[] w := fun x => by simpa using run_loadCells_list (P := P) w x [] (by simp)
    cases d <;> cases a <;> simp [Builtin.copy_, run_underlying hu, Builtin.lenOf, Builtin.firstCells, sizeOf, typeInfo, hq, hn, storeCells, hl]
theorem wpList_copyN {w : World} {ops : Array Oper} {rest : List Oper} {o : Oper} {a : Act} {Q : Exit → Act → World → Prop} (hgd : o.guard = none) (d s : Operand) {dT sT : TypeId}
    (ho : o.op = .call { callee := .builtin .copy, args := #[d, s], argTypes := #[dT, sT] }) {elem : TypeId} (hu : P.underlying dT = some (.slice elem)) {sz : Nat} (hsz : (P.info? elem).map (·.size) = some sz) (hpos : 0 < sz)
    {g off dLen dCap : Nat} {A : Option Addr} {n sLen sCap : Nat} (hd : a.eval d = .slice (some ⟨g, off, none⟩) dLen dCap) (hs : a.eval s = .slice A sLen sCap)
    {cur : List Value} {t : TypeId} (hg : Blk w g t cur.toArray) {us : List Value} (hr : RV w A us) (hn : us.length = n * sz) (hmin : n = Nat.min sLen dLen) (hfit : off + us.length ≤ cur.length) (h1 : ∀ u ∈ us, u.oneCell' = true)
    (h : ∀ w', Blk w' g t (splice cur off us).toArray → Only (fun k => k = g) w w' → w'.heap.size = w.heap.size → wpList P ops Q rest (a.put o.dst (.int .i64 n)) w') :
    wpList P ops Q (o :: rest) a w := by
  refine wpList_plain hgd fun K hK => ?_
  rcases Nat.eq_zero_or_pos n with h0 | h0
  · have hu0 : us = [] := List.eq_nil_of_length_eq_zero (by rw [hn, h0, Nat.zero_mul])
    subst hu0
    have hrun := run_copy_noneN (P := P) w dT sT o.type elem (some ⟨g, off, none⟩) A dLen dCap sLen sCap sz hu hsz (by omega)
    refine wp_of_run (v := .int .i64 n) (w' := w) ?_ (hK _ _ (h w (by simpa [splice] using hg) (Only.refl _ _) rfl))
    subst h0
    simp [execOp, ho, resolve, invoke, builtin, hd, hs, hrun, Result.andThen, goInt]
  · obtain ⟨b, o', rfl, hb, hc⟩ := hr.at_ (by rw [hn]; exact Nat.mul_pos h0 hpos)
    have hrun := run_copy_rowN (P := P) w dT sT o.type elem g off dLen dCap ⟨b, o', none⟩ sLen sCap sz cur.toArray t us hu hsz hg (by rw [← hmin]; exact hn) (fun j v hj => by rw [addr_add]; exact hc j v hj) (by simpa using hfit) h1
    have hb' := setRow_heap w g _ (cur.toArray.toList.take off ++ us ++ cur.toArray.toList.drop (off + us.length)).toArray t _ hg
    refine wp_of_run (v := .int .i64 n) (w' := w.setRow g (cur.toArray.toList.take off ++ us ++ cur.toArray.toList.drop (off + us.length)).toArray) ?_ (hK _ _ (h _ ?_ (only_setRow g _) (by simp [World.setRow])))
    · rw [← hmin] at hrun
      simp [execOp, ho, resolve, invoke, builtin, hd, hs, hrun, Result.andThen, goInt]
    · have e : (splice cur off us).toArray = (cur.toArray.toList.take off ++ us ++ cur.toArray.toList.drop (off + us.length)).toArray := by
        unfold splice
        rw [List.append_assoc]
      rw [e]
      exact hb'
theorem made_all (z : Array Value) (v : Value) (hz : 0 < z.size) (h : ∀ k, k < z.size → z[k]? = some v) (n : Nat) : madeCells z n = (List.replicate n v).toArray := by
  apply Array.ext
  · simp [size_madeCells]
  · intro k h1 h2
    have hk : k % z.size < z.size := Nat.mod_lt _ hz
    have h3 := h _ hk
    rw [Array.getElem?_eq_getElem hk] at h3
    injection h3 with h3
    simp [madeCells, getElem!_pos z (k % z.size) hk, h3]
theorem wpList_makeN {w : World} {ops : Array Oper} {rest : List Oper} {o : Oper} {a : Act} {Q : Exit → Act → World → Prop} (hgd : o.guard = none) (l c : Operand) {t e : TypeId} {z v : Value} {size bytes : Nat}
    (ho : o.op = .makeSlice t l c) (ht : P.underlying t = some (.slice e)) (hinfo : (P.info? e).map (fun i => (i.zero, i.size, i.bytes)) = some (some z, size, bytes)) (hzs : 0 < z.cells.size) (hzc : ∀ k, k < z.cells.size → z.cells[k]? = some v)
    (kl kc : IntKind) (L : Int) (n : Nat) (hl : a.eval l = .int kl L) (hc : a.eval c = .int kc L) (hL : L = n) (hb : bytes * n ≤ 281474976710656) (h63 : n ≤ maxLen)
    (h : ∀ w', Blk w' w.heap.size e (List.replicate (n * size) v).toArray → Below w.heap.size w w' → w'.heap.size = w.heap.size + 1 → wpList P ops Q rest (a.put o.dst (.slice (some ⟨w.heap.size, 0, none⟩) n n)) w') :
    wpList P ops Q (o :: rest) a w := by
  obtain ⟨i, hi, h1, h2, h3⟩ := info_parts hinfo
  refine wpList_plain hgd fun K hK => ?_
  subst hL
  have hb' : (i.bytes : Int) * (n : Int) ≤ 281474976710656 := by
    rw [h3]
    have h : ((bytes * n : Nat) : Int) ≤ 281474976710656 := by omega
    rwa [Int.natCast_mul] at h
  have h63' : (n : Int) ≤ 9223372036854775807 := by
    simp only [maxLen] at h63
    omega
  have hr := run_make (P := P) w t e i z ht hi h1 kl kc n n (by omega) (Int.le_refl _) hb' h63'
  simp only [Int.toNat_natCast] at hr
  rw [made_all z.cells v hzs hzc, h2] at hr
  refine wp_of_run (v := .slice (some ⟨w.heap.size, 0, none⟩) n n) ?_ (hK _ _ (h _ (Blk.new w e _) ((Below.refl _ _).alloc (Nat.le_refl _) _) (by simp)))
  unfold execOp
  simp only [ho, hl, hc, Sem.run_bind, hr, Result.andThen_ok, Sem.run_pure]
end
end Go.Proofs.Ytmmdkpnoncnjnaa
