/- The writer's way and the document's way to the bytes of a row of things: plain lists. -/
import Derived.Test.YtmmdkpnoncnjnaaRefC
namespace Go.Proofs.Ytmmdkpnoncnjnaa

def isB (x : Item) : Bool := decide (1 ≤ x.kind) && decide (x.kind ≤ 6) && decide (x.p.ys.length ≤ 65536)
/-- What a Writer holds behind a row of things. -/
def putAll (s : List UInt8 × Int) (l : List Item) : List UInt8 × Int := l.foldl (fun s x => putItem s.1 s.2 x) s

theorem putL_bad (xs : List UInt8) (f : Int) (ys : List UInt8) (hf : f ≠ 0) : putL xs f ys = (xs, f) := by unfold putL; rw [if_neg hf]
theorem putItem_bad (xs : List UInt8) (f : Int) (x : Item) (hf : f ≠ 0) : putItem xs f x = (xs, f) := by
  unfold putItem
  repeat' split
  all_goals first | exact putL_bad _ _ _ hf | rfl | skip
  unfold numL
  split
  · rfl
  · exact putL_bad _ _ _ hf
theorem putAll_bad (l : List Item) (xs : List UInt8) (f : Int) (hf : f ≠ 0) : putAll (xs, f) l = (xs, f) := by
  induction l with
  | nil => rfl
  | cons x l ih => unfold putAll; rw [List.foldl_cons]; dsimp only; rw [putItem_bad _ _ _ hf]; exact ih
theorem putItem_ok (xs : List UInt8) (x : Item) (h1 : 1 ≤ x.kind) (h2 : x.kind ≤ 6) (hn : ¬ (x.kind = 1 ∧ x.n < 0)) : putItem xs 0 x = putL xs 0 (itemL x) := by
  unfold putItem itemL
  by_cases k1 : x.kind = 1
  · rw [if_pos k1, if_pos k1]
    unfold numL
    rw [if_neg (fun h => hn ⟨k1, h⟩)]
  rw [if_neg k1, if_neg k1]
  by_cases k2 : x.kind = 2
  · rw [if_pos k2, if_pos k2]
  rw [if_neg k2, if_neg k2]
  by_cases k3 : x.kind = 3
  · rw [if_pos k3, if_pos k3]
  rw [if_neg k3, if_neg k3]
  by_cases k4 : x.kind = 4
  · rw [if_pos k4, if_neg (by omega)]
  rw [if_neg k4]
  by_cases k5 : x.kind = 5
  · rw [if_pos k5, if_neg (by omega)]
  rw [if_neg k5, if_pos (by omega), if_pos (by omega)]
theorem putItem_neg (xs : List UInt8) (x : Item) (hn : x.kind = 1 ∧ x.n < 0) : putItem xs 0 x = (xs, 1) := by
  unfold putItem numL
  rw [if_pos hn.1, if_pos hn.2, if_pos rfl]

theorem ref_put (l : List Item) : ∀ xs : List UInt8, (∀ x ∈ l, 1 ≤ x.kind ∧ x.kind ≤ 6) → refFrom xs l = (doneL (putAll (xs, 0) l).1 (putAll (xs, 0) l).2, (putAll (xs, 0) l).2) := by
  induction l with
  | nil => intro xs _; rfl
  | cons x l ih =>
    intro xs hk
    obtain ⟨h1, h2⟩ := hk x (List.mem_cons_self ..)
    have e : putAll (xs, 0) (x :: l) = putAll (putItem xs 0 x) l := rfl
    rw [e]
    unfold refFrom
    by_cases hn : x.kind = 1 ∧ x.n < 0
    · rw [if_pos hn, putItem_neg xs x hn, putAll_bad l xs 1 (by decide)]
      rfl
    · rw [if_neg hn, putItem_ok xs x h1 h2 hn]
      unfold putL
      rw [if_pos rfl]
      by_cases ho : 4194304 < xs.length + (itemL x).length
      · rw [if_pos ho, if_neg (by omega), putAll_bad l xs 2 (by decide)]
        rfl
      · rw [if_neg ho, if_pos (by omega)]
        exact ih _ fun y hy => hk y (List.mem_cons_of_mem _ hy)
theorem putItem_le (xs : List UInt8) (f : Int) (x : Item) (h : xs.length ≤ 4194304) : (putItem xs f x).1.length ≤ 4194304 := by
  unfold putItem
  repeat' split
  all_goals first | exact putL_le _ _ _ h | exact h | skip
  unfold numL
  split
  · exact h
  · exact putL_le _ _ _ h
theorem putAll_snoc (s : List UInt8 × Int) (l : List Item) (x : Item) : putAll s (l ++ [x]) = putItem (putAll s l).1 (putAll s l).2 x := by unfold putAll; rw [List.foldl_append]; rfl
end Go.Proofs.Ytmmdkpnoncnjnaa
