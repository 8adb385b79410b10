/- Several texts in one: Round AppW Lend2. -/
import Derived.Test.YtadnjfoinmeloaaMintK
import Derived.Test.YtadnjfoinmeloaaBaseK
import Derived.Laws.Append
import Derived.Laws.AppendOwn
import Derived.Test.YtadnjfoinmeloaaRdK
import Derived.Test.YtadnjfoinmeloaaRefK
namespace Go.Proofs.Ytadnjfoinmeloaa

section
/- The law's round. -/
open Go.RowKit

end

section
/- An append of bytes of any length that memory holds. -/
open Go.RowKit

theorem nextcap_wide {need old : Nat} (h : old < need) : Builtin.nextslicecap need old ≤ need + need / 4 + 512 := by
  unfold Builtin.nextslicecap
  split
  · omega
  · split
    · omega
    · rw [growBy_four]
      repeat' split
      all_goals omega
theorem rv_front {w : World} {g : Nat} {t : TypeId} {cs : Array Value} {vs zs : List Value} (h : Blk w g t cs) (e : cs.toList = vs ++ zs) : RV w (some ⟨g, 0, none⟩) vs := by
  have h1 := (RV.of_blk h).cut 0 vs.length
  rw [List.drop_zero, e, List.take_append_of_le_length (Nat.le_refl _), List.take_length] at h1
  exact h1
theorem run_app_wide (w : World) (ty : TypeId) {base n c m c' : Nat} {A A' : Option Addr} {xs ys : List UInt8} (hown : OwnB w base A n c xs) (hr : RV w A' (ys.map bv)) (hm : ys.length = m) (hn6 : n ≤ 1000000) (hb : n + m ≤ 200000000000000) (hnil : A' = none → m = 0 ∧ c' = 0) (hbase : base ≤ w.heap.size) :
    ∃ A2 c2 w', (Builtin.append_ #[22, 22] ty #[.slice A n c, .slice A' m c']).run Try.prog w = .ok (.slice A2 (n + m) c2) w' ∧ Sl w' ⟨A2, c2, xs ++ ys⟩ ∧ Below base w w' := by
  have hxn := hown.len
  by_cases hs : n + m ≤ 140737488355328
  · obtain ⟨A2, c2, w', h1, h2, h3, -⟩ := run_app (P := Try.prog) eByte ty hown (c' := c') hr (by rw [List.length_map, hm, Nat.mul_one]) (map_bv_one _) (by unfold maxLen; omega) (by omega) hbase hnil
    have h4 : OwnB w' base A2 (n + m) c2 (xs ++ ys) := by
      show Own w' _ _ _ _ _ _ ((xs ++ ys).map bv)
      rw [List.map_append]
      exact h2
    exact ⟨A2, c2, w', h1, Sl.of_own h4, (Below.refl _ _).grown h3 hbase fun k hk => (Own.row hown k hk).1⟩
  cases A' with
  | none => have := hnil rfl; omega
  | some a =>
    have hnews : ∀ j u, (ys.map bv)[j]? = some u → w.cell? (a.add j) = some u := by
      intro j u hu
      rcases hr with h | ⟨b, off, hA, _, hc⟩
      · rw [h] at hu; simp at hu
      · simp only [Option.some.injEq] at hA
        subst hA
        rw [addr_add]
        exact hc j u hu
    obtain ⟨i, hi, i1, i2, i3⟩ := info_parts byte_info
    have hl : (ys.map bv).length = m * i.size := by rw [List.length_map, hm, i2, Nat.mul_one]
    have hm0 : 0 < m := by omega
    rcases hown.2 with ⟨hv, h0⟩ | ⟨g, cap, cur, hv, hg, hh, hnc, hcm, hcs, htake⟩
    · injection hv with e1 e2 e3
      subst e1 e2 e3
      have hx : xs = [] := List.eq_nil_of_length_eq_zero hxn
      subst hx
      have hrun := run_append_nil (P := Try.prog) w 22 ty 5 i (.int .u8 0) Try.underlying22 hi i1 a m c' (ys.map bv) hl hnews hm0 (by omega) (by rw [i3]; omega)
      rw [Nat.zero_add]
      refine ⟨_, _, _, hrun, ⟨rv_front (Blk.new w.drew _ _) (by simp; rfl), fun h => by cases h⟩, ?_⟩
      exact (below_drewN (Below.refl _ _) 1).alloc hbase _
    · injection hv with e1 e2 e3
      subst e1 e3
      have hlen : (xs.map bv).length = n * i.size := by rw [List.length_map, hxn, i2, Nat.mul_one]
      by_cases hroom : n + m ≤ c
      · have hfit : n * i.size + (ys.map bv).length ≤ cur.size := by rw [hl, i2, hcs]; omega
        have hrun := run_append_room (P := Try.prog) w 22 ty 5 i Try.underlying22 hi g n c cur hh a m c' (ys.map bv) hl hnews (map_bv_one _) hroom hfit
        refine ⟨_, _, _, hrun, ⟨rv_front (setRow_heap w g cur _ _ _ hh) (zs := cur.toList.drop (n * i.size + (ys.map bv).length)) ?_, fun h => by cases h⟩, Only.below (only_setRow g _) hbase fun k hk e => by omega⟩
        rw [List.map_append, ← htake, i2]
      · have holds : ∀ j u, (xs.map bv)[j]? = some u → w.cell? ((⟨g, 0, none⟩ : Addr).add j) = some u := hown.cells (g := g) rfl
        have hb2 := nextcap_wide (need := n + m) (old := c) (by omega)
        have hrun := run_append_grow (P := Try.prog) w 22 ty 5 i (.int .u8 0) Try.underlying22 hi i1 ⟨g, 0, none⟩ n c (xs.map bv) hlen holds a m c' (ys.map bv) hl hnews (by omega) (by omega) (by rw [i3]; omega)
        refine ⟨_, _, _, hrun, ⟨rv_front (Blk.new w.drew _ _) (by simp [List.append_assoc]; rfl), fun h => by cases h⟩, ?_⟩
        exact (below_drewN (Below.refl _ _) 1).alloc hbase _
end

section
/- The law's Lend and Kept of bytes (chapter 2's). -/
open Go.RowKit

/-- What is lent, while the spare room is marked up to k. -/
def lendL (bs : List UInt8) (k : Nat) : List UInt8 := bs ++ (List.replicate (k - bs.length) 0xA9 ++ List.replicate (bs.length + 67 - k) 0)
theorem length_lend (bs : List UInt8) (k : Nat) (h1 : bs.length ≤ k) (h2 : k ≤ bs.length + 67) : (lendL bs k).length = bs.length + 67 := by
  simp only [lendL, List.length_append, List.length_replicate]; omega
theorem lend_set (bs : List UInt8) (k : Nat) (h1 : bs.length ≤ k) (h2 : k < bs.length + 67) : (lendL bs k).set k 0xA9 = lendL bs (k + 1) := by
  unfold lendL
  obtain ⟨m, hm⟩ : ∃ m, bs.length + 67 - k = m + 1 := ⟨bs.length + 66 - k, by omega⟩
  have hm2 : bs.length + 67 - (k + 1) = m := by omega
  rw [List.set_append_right _ _ h1, List.set_append_right _ _ (by rw [List.length_replicate]; omega), List.length_replicate, Nat.sub_self, hm, hm2, List.replicate_succ, List.set_cons_zero,
    show k + 1 - bs.length = (k - bs.length) + 1 from by omega, List.replicate_succ', List.append_assoc]
  rfl
/-- What is lent in the end. -/
def lent (bs : List UInt8) : List UInt8 := bs ++ List.replicate 67 0xA9
theorem lend_done (bs : List UInt8) : lendL bs (bs.length + 67) = lent bs := by
  unfold lendL lent
  rw [Nat.sub_self, List.replicate_zero, List.append_nil, show bs.length + 67 - bs.length = 67 from by omega]
/-- What is left of lent bytes while they are written over. -/
def wornL (l : List UInt8) (k : Nat) : List UInt8 := List.replicate k 0x5E ++ l.drop k
theorem length_worn (l : List UInt8) (k : Nat) (h : k ≤ l.length) : (wornL l k).length = l.length := by
  simp only [wornL, List.length_append, List.length_replicate, List.length_drop]; omega
theorem worn_set (l : List UInt8) (k : Nat) (h : k < l.length) : (wornL l k).set k 0x5E = wornL l (k + 1) := by
  unfold wornL
  rw [List.set_append_right _ _ (by rw [List.length_replicate]; omega), List.length_replicate, Nat.sub_self, List.drop_eq_getElem_cons h, List.set_cons_zero, List.replicate_succ', List.append_assoc]
  rfl
theorem length_lent (bs : List UInt8) : (lent bs).length = bs.length + 67 := by simp [lent]
end
end Go.Proofs.Ytadnjfoinmeloaa
