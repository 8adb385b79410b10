/- One call of a script goes by: plain. -/
import Derived.Test.YtefaapcekbgjoaaMrN
namespace Go.Proofs.Ytefaapcekbgjoaa
open Go.RowKit

theorem Runs.at_le {L : List PCall} {st : PS} {k : Int} {o : POut} (h : Runs L st k o) : st.at_ ≤ o.st.at_ := by
  induction h with
  | stop _ => exact Nat.le_refl _
  | skip _ _ _ _ _ _ ih => exact Nat.le_trans (Nat.le_succ _) ih
  | void _ _ _ _ _ _ ih => exact Nat.le_trans (Nat.le_succ _) ih
  | told _ _ _ _ _ _ ih => exact Nat.le_trans (Nat.le_succ _) ih
  | fell _ _ _ _ _ => exact Nat.le_succ _
  | inOk _ _ _ _ _ _ _ ih1 ih2 => exact Nat.le_trans (Nat.le_trans (Nat.le_succ _) ih1) ih2
  | inOwn _ _ _ _ _ _ _ ih1 ih2 => exact Nat.le_trans (Nat.le_trans (Nat.le_succ _) ih1) ih2
  | inFar _ _ _ _ _ _ _ ih => exact Nat.le_trans (Nat.le_succ _) ih
section
variable {w w' : World} {B gs nC cC : Nat} {AC : Option Addr} {st : PS} {ms ks xs : List Gm} {TA : List (Option Addr × Nat)} {l : Sl7} {t : Nat} {x : Option (Nat × Int)} {Z : Nat → Prop} {m0 : Gm}
theorem StM.ftne (h : StM w B gs AC nC cC st ms ks TA l ms.length none Z) {b : Nat} {ty : TypeId} (hb : BlkT w b ty) (n1 : ty ≠ 59) (n2 : ty ≠ 49) (n3 : ty ≠ 71) (n4 : ty ≠ 37) (n5 : ty ≠ 105) : ¬ Ft gs ms l b := by
  have own : ∀ {e : TypeId} {sz n c : Nat} {A : Option Addr} {vs : List Value}, Own w B e sz A n c vs → A.map (·.block) = some b → ty = e := fun ho hA => by
    obtain ⟨h1, -, -⟩ := ownG_form ho b hA
    obtain ⟨cs, h2⟩ := own_ty ho h1
    exact blkT_eq hb h2.ty
  rintro (e | e | e | e | e | ⟨m, hm, e⟩)
  · rw [e] at hb; exact n1 (blkT_eq hb h.sc.blk.ty)
  · exact n2 (own h.sc.rows e)
  · exact n2 (own h.sc.kept e)
  · exact n3 (own h.sc.told e)
  · exact n4 (own h.sc.ret e)
  · rw [← e] at hb; exact n5 (blkT_eq hb (h.gm hm))
theorem Ft.back0 {l l' : Sl7} {b : Nat} (h : Ft gs (ms ++ [m0]) l' b) (hl : GrewL w l l') (hb : b < w.heap.size) : b = m0.g ∨ Ft gs ms l b := by
  rcases h with h | h | h | h | h | ⟨m, hm, e⟩
  · exact .inr (.inl h)
  · rcases hl.r b h with h1 | h1
    · exact .inr (.inr (.inl h1))
    · omega
  · rcases hl.k b h with h1 | h1
    · exact .inr (.inr (.inr (.inl h1)))
    · omega
  · rcases hl.t b h with h1 | h1
    · exact .inr (.inr (.inr (.inr (.inl h1))))
    · omega
  · rcases hl.e b h with h1 | h1
    · exact .inr (.inr (.inr (.inr (.inr (.inl h1)))))
    · omega
  · rcases List.mem_append.1 hm with hm | hm
    · exact .inr (.inr (.inr (.inr (.inr (.inr ⟨m, hm, e⟩)))))
    · rw [List.mem_singleton.1 hm] at e
      exact .inl e.symm
/-- The place goes on. -/
theorem StM.next (h : StM w B gs AC nC cC st ms ks TA l t x Z) (v : Value) (hv : v = .int .i64 ((st.at_ + 1 : Nat) : Int)) : StM (w.setCell ⟨gs, 1, none⟩ v) B gs AC nC cC st.next ms ks TA l t x Z ∧ Only (fun b => b = gs) w (w.setCell ⟨gs, 1, none⟩ v) := by
  subst hv
  obtain ⟨h1, h2⟩ := h.sc.raw.setAt (st.at_ + 1)
  have hn : ∀ b ty, BlkT w b ty → ty ≠ 59 → ¬ b = gs := fun b ty hb ht e => by rw [e] at hb; exact ht (blkT_eq hb h.sc.blk.ty)
  have hr := h.rd.only h2 (fun b cs hb => hn b _ hb.ty (by decide)) (fun b hb => hn b _ hb (by decide))
  exact ⟨⟨ScR.mk' (st := st.next) h1 h.sc.rlen h.sc.many h.sc.sole h.sc.base, ⟨hr.good, hr.bad, hr.over⟩, h.sub, h.xt, h.one, h.avt, h.avr⟩, h2⟩
/-- The readers of an inner Read go. -/
theorem StM.cut {e : Int} (h : StM w B gs AC nC cC (st.retd e) (ms ++ xs) ks TA l ms.length none Z) : StM (w.setCell ⟨gs, 2, none⟩ (.slice l.AR ms.length l.cR)) B gs AC nC cC (st.pop ms.length e) ms ks TA l ms.length none Z ∧ Only (fun b => b = gs) w (w.setCell ⟨gs, 2, none⟩ (.slice l.AR ms.length l.cR)) := by
  obtain ⟨h1, h2⟩ := h.sc.raw.cutR ms.length (by rw [List.length_map, List.length_append]; omega)
  have hn : ∀ b ty, BlkT w b ty → ty ≠ 59 → ¬ b = gs := fun b ty hb ht e => by rw [e] at hb; exact ht (blkT_eq hb h.sc.blk.ty)
  have hr := h.rd.only h2 (fun b cs hb => hn b _ hb.ty (by decide)) (fun b hb => hn b _ hb (by decide))
  have hrl : (ms ++ xs).length = st.rs.length := h.sc.rlen
  have ge : ∀ (i : Nat) (m : Gm), ms[i]? = some m → (ms ++ xs)[i]? = some m := fun i m hi => by
    rw [List.getElem?_append_left (List.getElem?_eq_some_iff.1 hi).1]; exact hi
  have hx : ((ms ++ xs).map Gm.g).take ms.length = ms.map Gm.g := by
    have h3 := List.take_left (l₁ := ms.map Gm.g) (l₂ := xs.map Gm.g)
    rw [List.length_map] at h3
    rw [List.map_append]
    exact h3
  rw [hx] at h1
  refine ⟨⟨ScR.mk' (st := st.pop ms.length e) h1 ?_ h.sc.many (fun i j m n hi hj => h.sc.sole i j m n (ge i m hi) (ge j n hj)) (fun m hm => h.sc.base m (List.mem_append_left _ hm)), ⟨fun i m r h3 h4 h5 h6 => ?_, fun y m r h3 => (by cases h3), fun n hn => ?_⟩, fun i m h3 h4 => h.sub i m h3 (ge i m h4), fun y h3 => (by cases h3), h.one, h.avt, h.avr⟩, h2⟩
  · show ms.length = (st.rs.take ms.length).length
    rw [List.length_take, ← hrl, List.length_append]
    omega
  · change (st.rs.take ms.length)[i]? = some r at h5
    rw [List.getElem?_take, if_pos h3] at h5
    exact hr.good i m r h3 (ge i m h4) h5 h6
  · rcases hr.over n hn with ⟨i, h3, h4⟩ | h3
    · rw [List.getElem?_append_left h3] at h4
      exact .inl ⟨i, h3, h4⟩
    · exact .inr h3
/-- A call has told. -/
theorem StM.tellS {l' : Sl7} {j a : Nat} {g : PGot} {q : Option Addr × Nat} (h : StM w B gs AC nC cC st ms ks TA l ms.length none Z) (hZ : ∀ b, Z b → b < w.heap.size) (hs : ScM w' B gs AC nC cC (st.tell j a g) ms ks (TA ++ [q]) l') (hr : RdsM w' (st.tell j a g) ms ks ms.length none) (hf : ∀ b o, q.1 = some ⟨b, o, none⟩ → w.heap.size ≤ b) :
    StM w' B gs AC nC cC (st.tell j a g) ms ks (TA ++ [q]) l' ms.length none Z :=
  ⟨hs, hr, h.sub, fun y e => (by cases e), h.one, fun p hp b o e hb => by
    rcases List.mem_append.1 hp with hp | hp
    · exact h.avt p hp b o e hb
    · rw [List.mem_singleton.1 hp] at e
      have := hf b o e
      have := hZ b hb
      omega, h.avr⟩
theorem StM.fallen {y : Nat × Int} (h : StM w B gs AC nC cC st ms ks TA l ms.length none Z) (hs : ScM w' B gs AC nC cC st ms ks TA l) (hr : RdsM w' st ms ks ms.length (some y)) (hy : y.1 < ms.length) : StM w' B gs AC nC cC st ms ks TA l ms.length (some y) Z :=
  ⟨hs, hr, h.sub, fun z e => by injection e with e; rw [← e]; exact hy, h.one, h.avt, h.avr⟩
end
theorem PS.jOf_lt {st : PS} {c : PCall} (h : 0 < st.rs.length) : st.jOf c < st.rs.length := by unfold PS.jOf; omega
theorem callCells_len (l : List (PCall × (Option Addr × Nat))) : (l.flatMap fun x => callCells x.1 x.2).length = l.length * 4 := by
  induction l with
  | nil => rfl
  | cons x l ih => rw [List.flatMap_cons, List.length_append, ih, List.length_cons]; simp [callCells]; omega
theorem call_cells {w : World} {b off : Nat} {L : List PCall} {TC : List (Option Addr × Nat)} (hc : ∀ j u, ((L.zip TC).flatMap fun x => callCells x.1 x.2)[j]? = some u → w.cell? ⟨b, off + j, none⟩ = some u) (k : Nat) {c : PCall} {t : Option Addr × Nat} (hk : L[k]? = some c) (ht : TC[k]? = some t) :
    w.cell? ⟨b, off + k * 4, none⟩ = some (.int .i64 c.kind) ∧ w.cell? ⟨b, off + k * 4 + 1, none⟩ = some (.int .i64 c.n) ∧ w.cell? ⟨b, off + k * 4 + 2, none⟩ = some (.int .i64 c.out) ∧ w.cell? ⟨b, off + k * 4 + 3, none⟩ = some (.slice t.1 c.b.length t.2) := by
  have hg : ∀ (l : List (PCall × (Option Addr × Nat))) (k j : Nat) (x : PCall × (Option Addr × Nat)), l[k]? = some x → j < 4 → (l.flatMap fun x => callCells x.1 x.2)[k * 4 + j]? = (callCells x.1 x.2)[j]? := by
    intro l
    induction l with
    | nil => intro k j x hk; cases hk
    | cons y l ih =>
      intro k j x hk hj
      rw [List.flatMap_cons]
      cases k with
      | zero =>
        injection hk with hk
        subst hk
        rw [Nat.zero_mul, Nat.zero_add, List.getElem?_append_left (by simp [callCells]; omega)]
      | succ k =>
        rw [List.getElem?_append_right (by simp [callCells]; omega), show (k + 1) * 4 + j - (callCells y.1 y.2).length = k * 4 + j from by simp [callCells]; omega]
        exact ih k j x hk hj
  have hz : (L.zip TC)[k]? = some (c, t) := by rw [List.getElem?_zip_eq_some]; exact ⟨hk, ht⟩
  have q0 := hc _ _ (hg _ k 0 _ hz (by omega))
  have q1 := hc _ _ (hg _ k 1 _ hz (by omega))
  have q2 := hc _ _ (hg _ k 2 _ hz (by omega))
  have q3 := hc _ _ (hg _ k 3 _ hz (by omega))
  rw [← Nat.add_assoc] at q1 q2 q3
  exact ⟨q0, q1, q2, q3⟩
end Go.Proofs.Ytefaapcekbgjoaa
