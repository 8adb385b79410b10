/- The script's run, whole: mint.Read over it. -/
import Derived.Test.YtefaapcekbgjoaaMrU
namespace Go.Proofs.Ytefaapcekbgjoaa
open Go.RowKit

theorem run_all {L : List PCall} {B gs nC cC : Nat} {AC : Option Addr} (hnC : nC = L.length) : ∀ m, RunC L B gs AC nC cC m := fun m => Nat.strongRecOn m fun _ ih => run_step hnC ih
def ps0 : PS := ⟨0, [], [], [], 0⟩
/-- A script that was just made. -/
theorem StM.start {w : World} {B gs nC cC : Nat} {AC : Option Addr} {Z : Nat → Prop} (hb : Blk w gs 59 #[.slice AC nC cC, .int .i64 0, .slice none 0 0, .slice none 0 0, .slice none 0 0, .slice none 0 0, .bool false]) (hB : B ≤ gs) :
    StM w B gs AC nC cC ps0 [] [] [] ⟨none, 0, none, 0, none, 0, none, 0⟩ 0 none Z :=
  ⟨⟨hb, hB, Own.nil _ _ _ _, Own.nil _ _ _ _, (fun b e => by cases e), Own.nil _ _ _ _, rfl, (fun i x t h => by cases h), Own.nil _ _ _ _, rfl, rfl, (fun i j m n h => by cases h), (fun m h => by cases h)⟩,
    ⟨(fun i m r h => by omega), (fun y m r h => by cases h), (fun n h => by cases h)⟩, (fun i m h => by omega), (fun y h => by cases h), (fun m h => by cases h), (fun q h => by cases h), (fun m h => by cases h)⟩
/-- What the outermost Read tells: the answer f of the run's end s2. -/
def OutOf (L : List PCall) (b : List UInt8) (s2 : PS) (f : Int) : Prop :=
  (Runs L (ps0.push b) 400 (.ok s2) ∧ f = s2.tail 0) ∨ (Runs L (ps0.push b) 400 (.thrown 0 f s2) ∧ f ≠ 0)
theorem read_top {L : List PCall} {B gs cC : Nat} {AC : Option Addr} (Z : Nat → Prop) (w : World) (p : Part) (gf : Nat) (hp : Sl w p) (hl : p.ys.length ≤ 140737488351232) (hC : CallsM w B AC L) (hB : B ≤ gs) (hZ : ∀ b, Z b → b < w.heap.size)
    (hb : Blk w gs 59 #[.slice AC L.length cC, .int .i64 0, .slice none 0 0, .slice none 0 0, .slice none 0 0, .slice none 0 0, .bool false]) (hF : Blk w gf 62 #[pv gs, .int .i64 400]) :
    Calls Try.prog 30 #[.slice p.A p.ys.length p.c, .func (.func 36) #[pv gf] #[]] w fun e w' =>
      ∃ (s2 : PS) (f : Int) (xs ks : List Gm) (T2 : List (Option Addr × Nat)) (l2 : Sl7), OutOf L p.ys s2 f ∧ Bnd s2 ∧ e = .returned (.int .i64 f) ∧ StM w' B gs AC L.length cC s2 xs ks T2 l2 0 none Z ∧ Only (fun b => b = gs) w w' := by
  refine (read_script (run_all (gs := gs) (AC := AC) (cC := cC) (B := B) rfl 400) ps0 [] [] [] ⟨none, 0, none, 0, none, 0, none, 0⟩ Z w p gf 400 hp hl (by show min L.length 400 - 0 ≤ 400; omega) hC (Nat.le_trans hB (Nat.le_of_lt hb.lt)) (StM.start hb hB) (Nat.le_refl _) (Nat.le_refl _) (Nat.le_refl _) (Nat.zero_le _) hF hZ (by decide)).mono ?_
  rintro e w' ⟨out, xs, kx, T2, l2, hR, hO, hG, hx, hm⟩
  have hO2 : Only (fun b => b = gs) w w' := hO.mono fun b _ e => by
    rcases e with e | e | e | e | e | ⟨m, hm, e⟩
    · exact e
    · cases e
    · cases e
    · cases e
    · cases e
    · cases hm
  cases out with
  | ok s2 =>
    obtain ⟨hbd, rfl, hSt⟩ := hm
    exact ⟨s2, _, xs, kx, T2, l2, .inl ⟨hR, rfl⟩, hbd, rfl, hSt, hO2⟩
  | thrown j f s2 =>
    obtain ⟨hbd, hf, ⟨rfl, rfl, hSt⟩ | ⟨hj, -⟩⟩ := hm
    · exact ⟨s2, f, xs, kx, T2, l2, .inr ⟨hR, hf⟩, hbd, rfl, hSt, hO2⟩
    · exact absurd hj (Nat.not_lt_zero _)
theorem OutOf.det {L : List PCall} {b : List UInt8} {s s' : PS} {f f' : Int} (h : OutOf L b s f) (h' : OutOf L b s' f') : s = s' ∧ f = f' := by
  rcases h with ⟨h1, h2⟩ | ⟨h1, h2⟩ <;> rcases h' with ⟨h3, h4⟩ | ⟨h3, h4⟩
  · have e := h1.det h3
    injection e with e
    subst e
    exact ⟨rfl, h2.trans h4.symm⟩
  · have e := h1.det h3; cases e
  · have e := h1.det h3; cases e
  · have e := h1.det h3
    injection e with _ e1 e2
    exact ⟨e2, e1⟩
end Go.Proofs.Ytefaapcekbgjoaa
