/- A Writer among blocks that are kept: its calls, told shortly. -/
import Derived.Test.YtadnjfoinmeloaaOpsK
import Derived.Test.YtadnjfoinmeloaaDecK
namespace Go.Proofs.Ytadnjfoinmeloaa
open Go.RowKit

/-- The Writer at gw holds xs; nothing that was there in w3 has turned but itself; the blocks of K are none of its own. -/
def WS (w3 wk : World) (gw : Nat) (K : Nat → Prop) (xs : List UInt8) : Prop :=
  ∃ A c, Wr wk w3.heap.size gw A c xs 0 ∧ Only (fun b => b = gw) w3 wk ∧ ∀ b, K b → b ≠ gw ∧ A.map (·.block) ≠ some b ∧ b < wk.heap.size
def Kept (K : Nat → Prop) (w w' : World) : Prop := w.heap.size ≤ w'.heap.size ∧ ∀ b, K b → w'.heap[b]? = w.heap[b]?
theorem Kept.blk {K : Nat → Prop} {w w' : World} (h : Kept K w w') {g : Nat} {t : TypeId} {cs : Array Value} (hb : Blk w g t cs) (hk : K g) : Blk w' g t cs := (h.2 g hk).trans hb
theorem WS.below {w3 w w' : World} {gw : Nat} {K : Nat → Prop} {xs : List UInt8} (h : WS w3 w gw K xs) (hb : Below w.heap.size w w') : WS w3 w' gw K xs := by
  obtain ⟨A, c, h1, h2, h3⟩ := h
  exact ⟨A, c, h1.below hb, h2.trans (Only.of_fresh hb), fun b hk => ⟨(h3 b hk).1, (h3 b hk).2.1, Nat.lt_of_lt_of_le (h3 b hk).2.2 hb.size⟩⟩
theorem WS.more {w3 w w' : World} {gw : Nat} {K : Nat → Prop} {xs : List UInt8} (h : WS w3 w gw K xs) (hb : Below w.heap.size w w') (L : Nat → Prop) (hL : ∀ b, L b → w.heap.size ≤ b ∧ b < w'.heap.size) : WS w3 w' gw (fun b => K b ∨ L b) xs := by
  obtain ⟨A, c, h1, h2, h3⟩ := h
  refine ⟨A, c, h1.below hb, h2.trans (Only.of_fresh hb), fun b hk => ?_⟩
  have hg := h1.blk.lt
  rcases hk with hk | hk
  · exact ⟨(h3 b hk).1, (h3 b hk).2.1, Nat.lt_of_lt_of_le (h3 b hk).2.2 hb.size⟩
  · have := hL b hk
    exact ⟨by omega, fun e => by have := (h1.lenA b e).2.1; omega, this.2⟩
theorem WS.less {w3 w : World} {gw : Nat} {K L : Nat → Prop} {xs : List UInt8} (h : WS w3 w gw K xs) (hL : ∀ b, L b → K b) : WS w3 w gw L xs := by
  obtain ⟨A, c, h1, h2, h3⟩ := h
  exact ⟨A, c, h1, h2, fun b hk => h3 b (hL b hk)⟩
theorem WS.only {w3 w : World} {gw : Nat} {K : Nat → Prop} {xs : List UInt8} (h : WS w3 w gw K xs) : Only (fun b => b = gw) w3 w := by
  obtain ⟨A, c, h1, h2, h3⟩ := h
  exact h2
/-- What a call of the Writer leaves. -/
def WSPost (w3 w : World) (gw : Nat) (K : Nat → Prop) (ys : List UInt8) (e : Ending) (w' : World) : Prop := e = .returned (.tuple #[]) ∧ WS w3 w' gw K ys ∧ Kept K w w'
theorem ws_post {w3 w w' : World} {gw : Nat} {K : Nat → Prop} {A : Option Addr} {ys : List UInt8} {e : Ending} (h2 : Only (fun b => b = gw) w3 w) (hA : ∀ b, A.map (·.block) = some b → w3.heap.size ≤ b) (h3 : ∀ b, K b → b ≠ gw ∧ A.map (·.block) ≠ some b ∧ b < w.heap.size)
    (he : e = .returned (.tuple #[])) (hp : WrPost w3.heap.size gw A w ys 0 w') : WSPost w3 w gw K ys e w' := by
  obtain ⟨A2, c2, hW, hA2, hO⟩ := hp
  refine ⟨he, ⟨A2, c2, hW, h2.more hO fun b hb h => ?_, fun b hk => ⟨(h3 b hk).1, fun e2 => ?_, Nat.lt_of_lt_of_le (h3 b hk).2.2 hO.size⟩⟩, hO.size, fun b hk => hO.block b (h3 b hk).2.2 fun h => ?_⟩
  · rcases h with h | h
    · exact h
    · have := hA b h; omega
  · rcases hA2 b e2 with h | h
    · exact (h3 b hk).2.1 h
    · have := (h3 b hk).2.2; omega
  · rcases h with h | h
    · exact (h3 b hk).1 h
    · exact (h3 b hk).2.1 h
theorem num_ws {w3 w : World} {gw : Nat} {K : Nat → Prop} {xs : List UInt8} (h : WS w3 w gw K xs) (n : Int) (h0 : 0 ≤ n) (h1 : n ≤ 9223372036854775807) (hx : xs.length + 9 ≤ 4194304) :
    Calls Try.prog 34 #[.pointer (some ⟨gw, 0, none⟩), .int .i64 n] w (WSPost w3 w gw K (xs ++ formL n.toNat)) := by
  obtain ⟨A, c, hW, hO, hK⟩ := h
  have hn := num_any w3.heap.size gw A c xs 0 n w hW (by omega) (by omega) hO.size
  have h9 := formL_le9 n.toNat
  unfold numL at hn
  rw [if_neg (by omega), putL_room (by omega)] at hn
  exact hn.mono fun e w' ⟨he, hp⟩ => ws_post hO (fun b hb => (hW.lenA b hb).1) hK he hp
theorem bytes_ws {w3 wp w : World} {gw : Nat} {K : Nat → Prop} {xs : List UInt8} (h : WS w3 wp gw K xs) (hb : Below wp.heap.size wp w) (p : Part) (hp : Sl w p) (hfar : ∀ b o, 0 < p.ys.length → p.A = some ⟨b, o, none⟩ → wp.heap.size ≤ b ∨ (b < w3.heap.size ∧ b ≠ gw)) (hx : xs.length + 9 + p.ys.length ≤ 4194304) :
    Calls Try.prog 35 #[.pointer (some ⟨gw, 0, none⟩), .slice p.A p.ys.length p.c] w (WSPost w3 w gw K (xs ++ (formL p.ys.length ++ p.ys))) := by
  obtain ⟨A, c, hW, hO, hK⟩ := h
  have hn := bytes_any w3.heap.size gw A c xs 0 p w (hW.below hb) hp (by omega) (by omega) (fun b o h0 e hs => by
    rcases hfar b o h0 e with h1 | ⟨h1, h2⟩
    · exact hW.far h1 hs
    · rcases hs with hs | hs
      · exact h2 hs
      · have := (hW.lenA b hs).1; omega) (by have := hO.size; have := hb.size; omega)
  have h9 := formL_le9 p.ys.length
  rw [putL_room (by rw [List.length_append]; omega)] at hn
  exact hn.mono fun e w' ⟨he, hp⟩ => ws_post (hO.trans (Only.of_fresh hb)) (fun b hb => (hW.lenA b hb).1) (fun b hk => ⟨(hK b hk).1, (hK b hk).2.1, Nat.lt_of_lt_of_le (hK b hk).2.2 hb.size⟩) he hp
def WSDone (w : World) (xs : List UInt8) (e : Ending) (w' : World) : Prop := ∃ A c, e = .returned (.tuple #[.slice A xs.length c, .int .i64 0]) ∧ OwnB w' w.heap.size A xs.length c xs ∧ Below w.heap.size w w'
theorem done_ws {w3 w : World} {gw : Nat} {K : Nat → Prop} {xs : List UInt8} (h : WS w3 w gw K xs) (hx : xs.length ≤ 4194304) : Calls Try.prog 36 #[.pointer (some ⟨gw, 0, none⟩)] w (WSDone w xs) := by
  obtain ⟨A, c, hW, hO, hK⟩ := h
  have hd := done_any w3.heap.size gw A c xs 0 w hW hx
  unfold DonePost at hd
  rw [show doneL xs 0 = xs from by unfold doneL; rw [if_pos rfl]] at hd
  exact hd
theorem new_ws (w : World) : Calls Try.prog 33 #[] w fun e w' => e = .returned (.pointer (some ⟨w.heap.size, 0, none⟩)) ∧ WS w' w' w.heap.size (fun b => b < w.heap.size) [] ∧ Below w.heap.size w w' ∧ w'.heap.size = w.heap.size + 1 := by
  refine (new_any w).mono ?_
  rintro e w' ⟨rfl, rfl⟩
  have hW : Wr (w.alloc (.cells #[.slice none 0 0, .int .i64 0] 113)) (w.alloc (.cells #[.slice none 0 0, .int .i64 0] 113)).heap.size w.heap.size none 0 [] 0 := ⟨Blk.new w _ _, Own.nil _ _ _ _⟩
  exact ⟨rfl, ⟨none, 0, hW, Only.refl _ _, fun b hb => ⟨by omega, (fun h => by cases h), by simp; omega⟩⟩, (Below.refl _ _).alloc (Nat.le_refl _) _, by simp⟩
end Go.Proofs.Ytadnjfoinmeloaa
