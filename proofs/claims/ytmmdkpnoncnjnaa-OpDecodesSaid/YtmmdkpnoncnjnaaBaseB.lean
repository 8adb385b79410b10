/- More laws for the walk: copy of one-cell elements into a block that is known whole. -/
import Derived.Test.YtmmdkpnoncnjnaaBase
namespace Go.Proofs.Ytmmdkpnoncnjnaa
open Go.RowKit

theorem only_setRow {w : World} (g : Nat) (cs : Array Value) : Only (fun k => k = g) w (w.setRow g cs) :=
  ⟨rfl, rfl, rfl, by simp, fun k _ hn => setRow_other w g k cs hn⟩

theorem wpList_copy1 {P : Program} {w : World} {ops : Array Oper} {rest : List Oper} {o : Oper} {a : Act} {Q : Exit → Act → World → Prop} (hgd : o.guard = none) (d s : Operand) {dT sT : TypeId}
    (ho : o.op = .call { callee := .builtin .copy, args := #[d, s], argTypes := #[dT, sT] }) {elem : TypeId} (hu : P.underlying dT = some (.slice elem)) (hsz : (P.info? elem).map (·.size) = some 1)
    {g off dLen dCap : Nat} {A : Option Addr} {n sLen sCap : Nat} (hd : a.eval d = .slice (some ⟨g, off, none⟩) dLen dCap) (hs : a.eval s = .slice A sLen sCap)
    {cur : List Value} {t : TypeId} (hg : Blk w g t cur.toArray) {us : List Value} (hr : RV w A us) (hn : us.length = n) (hmin : n = Nat.min sLen dLen) (hul : us.length ≤ sLen) (hfit : off + n ≤ cur.length) (h1 : ∀ u ∈ us, u.oneCell' = true)
    (h : ∀ w', Blk w' g t (splice cur off us).toArray → Only (fun k => k = g) w w' → wpList P ops Q rest (a.put o.dst (.int .i64 n)) w') :
    wpList P ops Q (o :: rest) a w := by
  subst hn
  rcases Nat.eq_zero_or_pos us.length with h0 | h0
  · obtain rfl : us = [] := List.eq_nil_of_length_eq_zero h0
    refine wpList_copy_nothing hgd d s dT sT ho elem hu hsz (some ⟨g, off, none⟩) A dLen dCap sLen sCap hd hs (by simpa using hmin.symm) ?_
    exact h w (by simpa [splice] using hg) (Only.refl _ _)
  · obtain ⟨b, o', rfl, hb, hc⟩ := hr.at_ h0
    refine wpList_copy_own hgd d s dT sT ho elem hu hsz g off dLen dCap ⟨b, o', none⟩ sLen sCap hd hs cur.toArray t hg us hmin (fun j v hj => by rw [addr_add]; exact hc j v hj) (by simpa using hfit) h1 ?_
    refine h _ ?_ (only_setRow g _)
    have := setRow_heap w g _ (cur.toArray.toList.take off ++ (us ++ cur.toArray.toList.drop (off + us.length))).toArray t _ hg
    exact this

/-- A block known as a list holds a cell at each of its places. -/
theorem Blk.some {w : World} {g : Nat} {t : TypeId} {cs : List Value} (h : Blk w g t cs.toArray) {i : Nat} (hi : i < cs.length) : ∃ v, w.cell? ⟨g, i, none⟩ = Option.some v :=
  ⟨cs[i], by rw [h.cell]; simp [List.getElem?_eq_getElem hi]⟩
theorem Blk.setL {w : World} {g : Nat} {t : TypeId} {cs : List Value} (h : Blk w g t cs.toArray) (i : Nat) (u : Value) : Blk (w.setCell ⟨g, i, none⟩ u) g t (cs.set i u).toArray := by
  have := h.set_ i u
  rwa [List.setIfInBounds_toArray] at this
theorem Blk.at_ {w : World} {g : Nat} {t : TypeId} {cs : List Value} (h : Blk w g t cs.toArray) (i : Nat) : w.cell? ⟨g, i, none⟩ = cs[i]? := by
  rw [h.cell]; simp
end Go.Proofs.Ytmmdkpnoncnjnaa
