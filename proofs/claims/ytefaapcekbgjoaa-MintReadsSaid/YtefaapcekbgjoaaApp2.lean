/- An append told more nearly: in its own place, or in new memory with nothing turned. -/
import Derived.Test.YtefaapcekbgjoaaBaseK
import Derived.ArgAppend
namespace Go.Proofs.Ytefaapcekbgjoaa
open Go.RowKit
variable {P : Program} {w : World}

theorem run_app2 {t e : TypeId} {size bytes : Nat} (E : Elem P t e size bytes) (ty : TypeId) {base n c : Nat} {A : Option Addr} {vs : List Value} (hown : Own w base e size A n c vs)
    {a' : Addr} {m c' : Nat} {us : List Value} (hr : RV w (some a') us) (hl : us.length = m * size) (h1 : ∀ u ∈ us, u.oneCell' = true) (_hm : 0 < m)
    (h63 : n + m ≤ maxLen) (hbytes : (n + m) * bytes ≤ 140737488355328) (hbase : base ≤ w.heap.size) :
    ∃ A2 c2 w', (Builtin.append_ #[t, t] ty #[.slice A n c, .slice (some a') m c']).run P w = .ok (.slice A2 (n + m) c2) w' ∧ Own w' base e size A2 (n + m) c2 (vs ++ us) ∧
      ((A2 = A ∧ A ≠ none ∧ w.grownBy w' (A.map (·.block))) ∨ ((∀ b o, A2 = some ⟨b, o, none⟩ → w.heap.size ≤ b) ∧ w.grownBy w' none)) := by
  obtain ⟨i, z, hi, hz, hsize, hby, hzs⟩ := E.hi
  obtain ⟨A2, c2, w', hrun, hown2, hg, hat⟩ := run_app E ty hown hr (c' := c') hl h1 h63 hbytes hbase (fun h => by cases h)
  have hnews : ∀ j u, us[j]? = some u → w.cell? (a'.add j) = some u := by
    intro j u hu
    rcases hr with h | ⟨b, off, hA, _, hc⟩
    · subst h; simp at hu
    · simp only [Option.some.injEq] at hA
      subst hA
      rw [addr_add]
      exact hc j u hu
  rcases hown.2 with ⟨hv, h0⟩ | ⟨g, cap, cur, hv, hbg, hh, hnc, hcm, hcs, htake⟩
  · have hA : A = none := by injection hv
    subst hA
    refine ⟨A2, c2, w', hrun, hown2, .inr ⟨fun b o e => ?_, hg⟩⟩
    rcases hat with h | h
    · rw [e] at h; cases h
    · rw [e] at h
      have : b = w.heap.size := by simpa using h
      omega
  · have hA : A = some ⟨g, 0, none⟩ := by injection hv
    have hcc : c = cap := by injection hv
    subst hA hcc
    rcases Nat.lt_or_ge c (n + m) with hfull | hroom
    · have holds : ∀ j u, vs[j]? = some u → w.cell? ((⟨g, 0, none⟩ : Addr).add j) = some u := hown.cells (g := g) rfl
      obtain ⟨v3, w3, hrun3, hown3, hg3⟩ := run_append_arg_grows (P := P) w t ty e i z size bytes E.ht hi hz hsize hby hzs E.hsz ⟨g, 0, none⟩ n c vs hown.1 holds a' m c' us hl hnews hfull h63 hbytes
      rw [hrun] at hrun3
      injection hrun3 with e1 e2
      subst e1 e2
      refine ⟨A2, c2, w', hrun, hown2, .inr ⟨fun b o e => ?_, hg3⟩⟩
      exact (Own.row (A := A2) hown3 b (by rw [e]; rfl)).1
    · have hfit : n * i.size + us.length ≤ cur.size := by rw [hl, hcs, hsize, ← Nat.add_mul]; exact Nat.mul_le_mul_right _ hroom
      have hrun3 := run_append_room (P := P) w t ty e i E.ht hi g n c cur hh a' m c' us (by rw [hsize]; exact hl) hnews h1 hroom hfit
      rw [hrun] at hrun3
      injection hrun3 with e1 e2
      injection e1 with e3
      subst e3
      exact ⟨_, c2, w', hrun, hown2, .inl ⟨rfl, by simp, hg⟩⟩
theorem wpList_app2 {ops : Array Oper} {rest : List Oper} {o : Oper} {a : Act} {Q : Exit → Act → World → Prop} (hgd : o.guard = none) (s x : Operand) {t e : TypeId} {size bytes : Nat} (E : Elem P t e size bytes)
    (ho : o.op = .call { callee := .builtin .append, args := #[s, x], argTypes := #[t, t] })
    {base n c : Nat} {A : Option Addr} {vs : List Value} (hs : a.eval s = .slice A n c) (hown : Own w base e size A n c vs)
    {a' : Addr} {m c' : Nat} {us : List Value} (hx : a.eval x = .slice (some a') m c') (hr : RV w (some a') us) (hl : us.length = m * size) (h1 : ∀ u ∈ us, u.oneCell' = true) (hm : 0 < m)
    (h63 : n + m ≤ maxLen) (hbytes : (n + m) * bytes ≤ 140737488355328) (hbase : base ≤ w.heap.size)
    (h : ∀ A2 c2 w', Own w' base e size A2 (n + m) c2 (vs ++ us) → ((A2 = A ∧ A ≠ none ∧ w.grownBy w' (A.map (·.block))) ∨ ((∀ b o, A2 = some ⟨b, o, none⟩ → w.heap.size ≤ b) ∧ w.grownBy w' none)) → wpList P ops Q rest (a.put o.dst (.slice A2 (n + m) c2)) w') :
    wpList P ops Q (o :: rest) a w := by
  refine wpList_plain hgd fun K hK => ?_
  obtain ⟨A2, c2, w', hrun, h2, h3⟩ := run_app2 (P := P) E o.type hown (c' := c') hr hl h1 hm h63 hbytes hbase
  unfold Oper.wp execOp
  simp only [ho, resolve, invoke, builtin, Sem.run_bind, Sem.run_pure, Result.andThen_ok, List.map_toArray, List.map_cons, List.map_nil, hs, hx, hrun]
  exact hK _ _ (h A2 c2 w' h2 h3)
end Go.Proofs.Ytefaapcekbgjoaa
