/- The reference's script in memory: plain. -/
import Derived.Test.YtefaapcekbgjoaaMrW
import Derived.Test.YtefaapcekbgjoaaRfRdr
namespace Go.Proofs.Ytefaapcekbgjoaa
open Go.RowKit

/-- The reference's lists. -/
structure Sl3 where
  AR : Option Addr
  cR : Nat
  AT : Option Addr
  cT : Nat
  AE : Option Addr
  cE : Nat
/-- The reference's script as it lies. -/
structure PlM (w : World) (B gp : Nat) (AC : Option Addr) (nC cC a : Nat) (gs : List Nat) (told : List PGot) (TA : List (Option Addr × Nat)) (ret : List Int) (many : Nat) (l : Sl3) : Prop where
  blk : Blk w gp 68 #[.slice AC nC cC, .int .i64 (a : Int), .slice l.AR gs.length l.cR, .slice l.AT told.length l.cT, .slice l.AE ret.length l.cE, .int .i64 (many : Int)]
  low : B ≤ gp
  rows : Own w B 114 1 l.AR gs.length l.cR (gs.map pv)
  tol : Own w B 71 3 l.AT told.length l.cT ((told.zip TA).flatMap fun x => gotCells x.1 x.2)
  tlen : TA.length = told.length
  tb : ∀ (i : Nat) (x : PGot) (t : Option Addr × Nat), told[i]? = some x → TA[i]? = some t → Bt w t x.b
  rt : Own w B 3 1 l.AE ret.length l.cE (ret.map fun e => .int .i64 e)
/-- The reference's readers: x: the one that has met a fault, if any. -/
structure RfM (w : World) (B : Nat) (gs : List Nat) (rs : List (List UInt8 × Nat)) (x : Option (Nat × Int)) : Prop where
  len : gs.length = rs.length
  good : ∀ (i g : Nat) (r : List UInt8 × Nat), gs[i]? = some g → rs[i]? = some r → (∀ y, x = some y → y.1 ≠ i) → ∃ A c, RR w g A c r.1 r.2 0 ∧ Sl w ⟨A, c, r.1⟩ ∧ (r.1.length ≤ 140737488351232 ∧ r.1.length ≤ c) ∧ (0 < r.1.length → ∀ b o, A = some ⟨b, o, none⟩ → b < B)
  bad : ∀ (y : Nat × Int) (g : Nat), x = some y → gs[y.1]? = some g → ∃ A c bs a, RR w g A c bs a y.2 ∧ (0 < bs.length → ∀ b o, A = some ⟨b, o, none⟩ → b < B)
  sole : ∀ (i j g h : Nat), gs[i]? = some g → gs[j]? = some h → i ≠ j → g ≠ h
  low : ∀ g ∈ gs, B ≤ g
section
variable {w w' w6 w7 : World} {B gp nC cC a : Nat} {AC A2 : Option Addr} {c2 : Nat} {gs : List Nat} {rs : List (List UInt8 × Nat)} {x : Option (Nat × Int)} {told : List PGot} {TA : List (Option Addr × Nat)} {ret : List Int} {many : Nat} {l : Sl3}
theorem PlM.only {S : Nat → Prop} (h : PlM w B gp AC nC cC a gs told TA ret many l) (ho : Only S w w') (hn : ∀ b t, BlkT w b t → t ≠ 116 → ¬ S b) : PlM w' B gp AC nC cC a gs told TA ret many l := by
  have own : ∀ {e : TypeId} {sz n c : Nat} {A : Option Addr} {vs : List Value}, e ≠ 116 → Own w B e sz A n c vs → Own w' B e sz A n c vs := fun he ho2 => Own.only ho2 ho fun b o e2 => by
    obtain ⟨cs, hb⟩ := own_ty ho2 e2
    exact hn b _ hb.ty he
  exact ⟨h.blk.only ho (hn gp _ h.blk.ty (by decide)), h.low, own (by decide) h.rows, own (by decide) h.tol, h.tlen, fun i x t h1 h2 => (h.tb i x t h1 h2).only ho fun b hb => hn b _ hb (by decide), own (by decide) h.rt⟩
theorem PlM.below (h : PlM w B gp AC nC cC a gs told TA ret many l) (hb : Below w.heap.size w w') : PlM w' B gp AC nC cC a gs told TA ret many l := h.only (S := fun _ => False) (Only.of_fresh hb) fun _ _ _ _ h => h
theorem RfM.only {S : Nat → Prop} (h : RfM w B gs rs x) (ho : Only S w w') (hg : ∀ g cs, Blk w g 116 cs → ¬ S g) (hS : ∀ b, S b → B ≤ b) : RfM w' B gs rs x :=
  ⟨h.len, fun i g r h1 h2 h3 => by
    obtain ⟨A, c, h4, h5, h6, h7⟩ := h.good i g r h1 h2 h3
    exact ⟨A, c, h4.only ho (hg _ _ h4.blk) (fun hn b o e hs => by have := h7 (List.length_pos_iff.2 hn) b o e; have := hS b hs; omega), h5.only ho (fun b o h0 e hs => by have := h7 h0 b o e; have := hS b hs; omega), h6, h7⟩, fun y g h1 h2 => by
    obtain ⟨A, c, bs, a, h4, h7⟩ := h.bad y g h1 h2
    exact ⟨A, c, bs, a, h4.only ho (hg _ _ h4.blk) (fun hn b o e hs => by have := h7 (List.length_pos_iff.2 hn) b o e; have := hS b hs; omega), h7⟩, h.sole, h.low⟩
theorem RfM.below (h : RfM w B gs rs x) (hb : Below w.heap.size w w') : RfM w' B gs rs x := h.only (S := fun _ => False) (Only.of_fresh hb) (fun _ _ _ h => h) (fun _ h => h.elim)
/-- Readers further in go. -/
theorem RfM.cut (h : RfM w B gs rs x) (k : Nat) : RfM w B (gs.take k) (rs.take k) (x.bind fun y => if y.1 < k then some y else none) := by
  have hb : ∀ y, x = some y → y.1 < k → (x.bind fun y => if y.1 < k then some y else none) = some y := fun y e hy => by rw [e]; exact if_pos hy
  refine ⟨by rw [List.length_take, List.length_take, h.len], fun i g r h1 h2 h3 => ?_, fun y g h1 h2 => ?_, fun i j g g2 h1 h2 h3 => ?_, fun g hg => h.low g (List.mem_of_mem_take hg)⟩
  · rw [List.getElem?_take] at h1 h2
    by_cases hi : i < k
    · rw [if_pos hi] at h1 h2
      exact h.good i g r h1 h2 fun y e e2 => h3 y (hb y e (by omega)) e2
    · rw [if_neg hi] at h1; cases h1
  · rw [List.getElem?_take] at h2
    by_cases hi : y.1 < k
    · rw [if_pos hi] at h2
      refine h.bad y g ?_ h2
      cases hx : x with
      | none => rw [hx] at h1; cases h1
      | some z =>
        rw [hx] at h1
        change (if z.1 < k then some z else none) = some y at h1
        by_cases hz : z.1 < k
        · rw [if_pos hz] at h1; exact h1
        · rw [if_neg hz] at h1; cases h1
    · rw [if_neg hi] at h2; cases h2
  · rw [List.getElem?_take] at h1 h2
    by_cases hi : i < k
    · by_cases hj : j < k
      · rw [if_pos hi] at h1; rw [if_pos hj] at h2
        exact h.sole i j g g2 h1 h2 h3
      · rw [if_neg hj] at h2; cases h2
    · rw [if_neg hi] at h1; cases h1
/-- A reader more. -/
theorem RfM.push (h : RfM w B gs rs none) {g : Nat} {A : Option Addr} {c : Nat} {bs : List UInt8} (hr : RR w g A c bs 0 0) (hs : Sl w ⟨A, c, bs⟩) (hl : bs.length ≤ 140737488351232 ∧ bs.length ≤ c) (hA : 0 < bs.length → ∀ b o, A = some ⟨b, o, none⟩ → b < B) (hg : B ≤ g) (hn : g ∉ gs) : RfM w B (gs ++ [g]) (rs ++ [(bs, 0)]) none := by
  have key : ∀ (i g2 : Nat), (gs ++ [g])[i]? = some g2 → (i < gs.length ∧ gs[i]? = some g2) ∨ (i = gs.length ∧ g2 = g) := fun i g2 hi => by
    by_cases h1 : i < gs.length
    · rw [List.getElem?_append_left h1] at hi; exact .inl ⟨h1, hi⟩
    · rw [List.getElem?_append_right (by omega)] at hi
      obtain h2 | h2 : i - gs.length = 0 ∨ 0 < i - gs.length := by omega
      · rw [h2] at hi; injection hi with hi; exact .inr ⟨by omega, hi.symm⟩
      · rw [List.getElem?_eq_none (by rw [List.length_singleton]; exact h2)] at hi; cases hi
  refine ⟨by rw [List.length_append, List.length_append, h.len]; rfl, fun i g2 r h1 h2 _ => ?_, fun y g2 e => (by cases e), fun i j g2 g3 h1 h2 h3 e => ?_, fun g2 h1 => ?_⟩
  · rcases key i g2 h1 with ⟨h3, h4⟩ | ⟨h3, rfl⟩
    · rw [List.getElem?_append_left (by rw [← h.len]; exact h3)] at h2
      exact h.good i g2 r h4 h2 (fun y e => by cases e)
    · rw [List.getElem?_append_right (by rw [← h.len]; omega), show i - rs.length = 0 by rw [← h.len]; omega] at h2
      injection h2 with h2
      subst h2
      exact ⟨A, c, hr, hs, hl, hA⟩
  · rcases key i g2 h1 with ⟨h4, h5⟩ | ⟨h4, rfl⟩
    · rcases key j g3 h2 with ⟨h6, h7⟩ | ⟨h6, rfl⟩
      · exact h.sole i j g2 g3 h5 h7 h3 e
      · exact hn (e ▸ List.mem_of_getElem? h5)
    · rcases key j g3 h2 with ⟨h6, h7⟩ | ⟨h6, rfl⟩
      · exact hn (e ▸ List.mem_of_getElem? h7)
      · omega
  · rcases List.mem_append.1 h1 with h2 | h2
    · exact h.low g2 h2
    · rw [List.mem_singleton.1 h2]; exact hg
/-- One reader has gone on, or met a fault. -/
theorem RfM.go {j g a2 : Nat} {f2 : Int} {A : Option Addr} {c : Nat} {r : List UInt8 × Nat} (h : RfM w B gs rs none) (hg : gs[j]? = some g) (hr : rs[j]? = some r) (hA : 0 < r.1.length → ∀ b o, A = some ⟨b, o, none⟩ → b < B) (hs : Sl w ⟨A, c, r.1⟩) (hl : r.1.length ≤ 140737488351232 ∧ r.1.length ≤ c) (ho : Only (fun b => b = g) w w') (hn : RR w' g A c r.1 a2 f2) :
    (f2 = 0 → RfM w' B gs (rs.set j (r.1, a2)) none) ∧ RfM w' B gs rs (some (j, f2)) := by
  have hB := h.low g (List.mem_of_getElem? hg)
  have hS : ∀ {n b o : Nat} {A : Option Addr}, (0 < n → ∀ b o, A = some ⟨b, o, none⟩ → b < B) → 0 < n → A = some ⟨b, o, none⟩ → ¬ b = g := fun h1 h0 e e2 => by have := h1 h0 _ _ e; omega
  have oth : ∀ (i g2 : Nat) (r2 : List UInt8 × Nat), gs[i]? = some g2 → rs[i]? = some r2 → i ≠ j → ∃ A c, RR w' g2 A c r2.1 r2.2 0 ∧ Sl w' ⟨A, c, r2.1⟩ ∧ (r2.1.length ≤ 140737488351232 ∧ r2.1.length ≤ c) ∧ (0 < r2.1.length → ∀ b o, A = some ⟨b, o, none⟩ → b < B) := fun i g2 r2 h1 h2 h3 => by
    obtain ⟨A2, c2, h4, h5, h6, h7⟩ := h.good i g2 r2 h1 h2 (fun y e => by cases e)
    exact ⟨A2, c2, h4.only ho (fun e => h.sole i j g2 g h1 hg h3 e) (fun hn b o e => hS h7 (List.length_pos_iff.2 hn) e), h5.only ho (fun b o h0 e => hS h7 h0 e), h6, h7⟩
  have hs' := hs.only ho (fun b o h0 e => hS hA h0 e)
  refine ⟨fun e0 => ⟨by rw [List.length_set, h.len], fun i g2 r2 h1 h2 _ => ?_, fun y g2 e => (by cases e), h.sole, h.low⟩, ⟨h.len, fun i g2 r2 h1 h2 h3 => oth i g2 r2 h1 h2 (fun e => h3 (j, f2) rfl e.symm), fun y g2 e h1 => ?_, h.sole, h.low⟩⟩
  · by_cases hi : i = j
    · subst hi
      rw [hg] at h1
      injection h1 with h1
      subst h1
      rw [List.getElem?_set_self (List.getElem?_eq_some_iff.1 hr).1] at h2
      injection h2 with h2
      subst h2 e0
      exact ⟨A, c, hn, hs', hl, hA⟩
    · rw [List.getElem?_set_ne (fun e => hi e.symm)] at h2
      exact oth i g2 r2 h1 h2 hi
  · injection e with e
    subst e
    rw [hg] at h1
    injection h1 with h1
    subst h1
    exact ⟨A, c, r.1, a2, hn, hA⟩
/-- One cell of the script's block is written: nothing else turns. -/
theorem PlM.put (h : PlM w B gp AC nC cC a gs told TA ret many l) (i : Nat) (v : Value) :
    Blk (w.setCell ⟨gp, i, none⟩ v) gp 68 ((#[.slice AC nC cC, .int .i64 (a : Int), .slice l.AR gs.length l.cR, .slice l.AT told.length l.cT, .slice l.AE ret.length l.cE, .int .i64 (many : Int)] : Array Value).toList.set i v).toArray ∧
    Own (w.setCell ⟨gp, i, none⟩ v) B 114 1 l.AR gs.length l.cR (gs.map pv) ∧
    Own (w.setCell ⟨gp, i, none⟩ v) B 71 3 l.AT told.length l.cT ((told.zip TA).flatMap fun x => gotCells x.1 x.2) ∧ (∀ (i' : Nat) (x : PGot) (t : Option Addr × Nat), told[i']? = some x → TA[i']? = some t → Bt (w.setCell ⟨gp, i, none⟩ v) t x.b) ∧
    Own (w.setCell ⟨gp, i, none⟩ v) B 3 1 l.AE ret.length l.cE (ret.map fun e => .int .i64 e) ∧ Only (fun b => b = gp) w (w.setCell ⟨gp, i, none⟩ v) := by
  have hO : Only (fun b => b = gp) w (w.setCell ⟨gp, i, none⟩ v) := (Only.refl (fun b => b = gp) w).setCell (p := ⟨gp, i, none⟩) (.inl rfl) _
  have hn : ∀ b ty, BlkT w b ty → ty ≠ 68 → ¬ b = gp := fun b ty hb ht e => by rw [e] at hb; exact ht (blkT_eq hb h.blk.ty)
  have own : ∀ {e : TypeId} {sz n c : Nat} {A : Option Addr} {vs : List Value}, e ≠ 68 → Own w B e sz A n c vs → Own (w.setCell ⟨gp, i, none⟩ v) B e sz A n c vs := fun he ho2 => Own.only ho2 hO fun b o e2 => by
    obtain ⟨cs, hb⟩ := own_ty ho2 e2
    exact hn b _ hb.ty he
  exact ⟨Blk.setL (cs := (#[.slice AC nC cC, .int .i64 (a : Int), .slice l.AR gs.length l.cR, .slice l.AT told.length l.cT, .slice l.AE ret.length l.cE, .int .i64 (many : Int)] : Array Value).toList) h.blk i v, own (by decide) h.rows, own (by decide) h.tol, fun i' x t h1 h2 => (h.tb i' x t h1 h2).only hO fun b hb => hn b _ hb (by decide), own (by decide) h.rt, hO⟩
theorem PlM.setAt (h : PlM w B gp AC nC cC a gs told TA ret many l) (k : Nat) : PlM (w.setCell ⟨gp, 1, none⟩ (.int .i64 (k : Int))) B gp AC nC cC k gs told TA ret many l ∧ Only (fun b => b = gp) w (w.setCell ⟨gp, 1, none⟩ (.int .i64 (k : Int))) := by
  obtain ⟨h1, h2, h4, h5, h6, h7⟩ := h.put 1 (.int .i64 (k : Int))
  exact ⟨⟨h1, h.low, h2, h4, h.tlen, h5, h6⟩, h7⟩
theorem PlM.setMany (h : PlM w B gp AC nC cC a gs told TA ret many l) (k : Nat) : PlM (w.setCell ⟨gp, 5, none⟩ (.int .i64 (k : Int))) B gp AC nC cC a gs told TA ret k l ∧ Only (fun b => b = gp) w (w.setCell ⟨gp, 5, none⟩ (.int .i64 (k : Int))) := by
  obtain ⟨h1, h2, h4, h5, h6, h7⟩ := h.put 5 (.int .i64 (k : Int))
  exact ⟨⟨h1, h.low, h2, h4, h.tlen, h5, h6⟩, h7⟩
theorem PlM.cutR (h : PlM w B gp AC nC cC a gs told TA ret many l) (k : Nat) (hk : k ≤ gs.length) : PlM (w.setCell ⟨gp, 2, none⟩ (.slice l.AR k l.cR)) B gp AC nC cC a (gs.take k) told TA ret many l ∧ Only (fun b => b = gp) w (w.setCell ⟨gp, 2, none⟩ (.slice l.AR k l.cR)) := by
  obtain ⟨h1, h2, h4, h5, h6, h7⟩ := h.put 2 (.slice l.AR k l.cR)
  have hl : (gs.take k).length = k := by rw [List.length_take]; omega
  exact ⟨⟨by rw [hl]; exact h1, h.low, by rw [hl, List.map_take]; exact own_take h2 k hk, h4, h.tlen, h5, h6⟩, h7⟩
/-- A list is appended to: what the others are then. -/
theorem PlM.grow {AX : Option Addr} {e : TypeId} {sz n c : Nat} {vs : List Value} (h : PlM w6 B gp AC nC cC a gs told TA ret many l) (hx : Own w6 B e sz AX n c vs) (hg : w6.grownBy w7 (AX.map (·.block))) :
    Only (fun b => AX.map (·.block) = some b) w6 w7 ∧ (∀ {t : TypeId} {s n c : Nat} {A : Option Addr} {us : List Value}, t ≠ e → Own w6 B t s A n c us → Own w7 B t s A n c us) ∧ (e ≠ 68 → Blk w7 gp 68 #[.slice AC nC cC, .int .i64 (a : Int), .slice l.AR gs.length l.cR, .slice l.AT told.length l.cT, .slice l.AE ret.length l.cE, .int .i64 (many : Int)]) ∧
    (e ≠ 5 → ∀ (i' : Nat) (x : PGot) (t : Option Addr × Nat), told[i']? = some x → TA[i']? = some t → Bt w7 t x.b) := by
  have hO : Only (fun b => AX.map (·.block) = some b) w6 w7 := Only.of_grown hg fun k e => e
  have hat : ∀ b, AX.map (·.block) = some b → BlkT w6 b e := fun b e1 => by
    obtain ⟨h1, -, -⟩ := ownG_form hx b e1
    obtain ⟨cs, h2⟩ := own_ty hx h1
    exact h2.ty
  have hn : ∀ b ty, BlkT w6 b ty → ty ≠ e → ¬ AX.map (·.block) = some b := fun b ty hb ht e1 => ht (blkT_eq hb (hat b e1))
  exact ⟨hO, fun ht ho => Own.only ho hO fun b o e2 => by
    obtain ⟨cs, hb⟩ := own_ty ho e2
    exact hn b _ hb.ty ht, fun he => h.blk.only hO (hn gp _ h.blk.ty (Ne.symm he)), fun he i' x t h1 h2 => (h.tb i' x t h1 h2).only hO fun b hb => hn b _ hb (Ne.symm he)⟩
theorem PlM.putted {i : Nat} {v : Value} (hb7 : Blk w7 gp 68 #[.slice AC nC cC, .int .i64 (a : Int), .slice l.AR gs.length l.cR, .slice l.AT told.length l.cT, .slice l.AE ret.length l.cE, .int .i64 (many : Int)]) :
    Only (fun b => b = gp) w7 (w7.setCell ⟨gp, i, none⟩ v) ∧ (∀ {e : TypeId} {sz n c : Nat} {A : Option Addr} {vs : List Value}, e ≠ 68 → Own w7 B e sz A n c vs → Own (w7.setCell ⟨gp, i, none⟩ v) B e sz A n c vs) ∧ (∀ {t : Option Addr × Nat} {ys : List UInt8}, Bt w7 t ys → Bt (w7.setCell ⟨gp, i, none⟩ v) t ys) := by
  have hO2 : Only (fun b => b = gp) w7 (w7.setCell ⟨gp, i, none⟩ v) := (Only.refl (fun b => b = gp) w7).setCell (p := ⟨gp, i, none⟩) (.inl rfl) _
  have hn : ∀ b ty, BlkT w7 b ty → ty ≠ 68 → ¬ b = gp := fun b ty hb ht e => by rw [e] at hb; exact ht (blkT_eq hb hb7.ty)
  exact ⟨hO2, fun he ho2 => Own.only ho2 hO2 fun b o e2 => by
    obtain ⟨cs, hb⟩ := own_ty ho2 e2
    exact hn b _ hb.ty he, fun hb => hb.only hO2 fun b h1 => hn b _ h1 (by decide)⟩
theorem PlM.pushR (h : PlM w6 B gp AC nC cC a gs told TA ret many l) (g : Nat) (ho : Own w7 B 114 1 A2 (gs.length + 1) c2 (gs.map pv ++ [pv g])) (hg : w6.grownBy w7 (l.AR.map (·.block))) :
    PlM (w7.setCell ⟨gp, 2, none⟩ (.slice A2 (gs.length + 1) c2)) B gp AC nC cC a (gs ++ [g]) told TA ret many ⟨A2, c2, l.AT, l.cT, l.AE, l.cE⟩ ∧ Only (fun b => b = gp ∨ l.AR.map (·.block) = some b) w6 (w7.setCell ⟨gp, 2, none⟩ (.slice A2 (gs.length + 1) c2)) := by
  obtain ⟨hO, own, hb, hbt⟩ := h.grow h.rows hg
  have hb7 := hb (by decide)
  obtain ⟨hO2, own2, bt2⟩ := PlM.putted (B := B) (i := 2) (v := .slice A2 (gs.length + 1) c2) hb7
  have h1 := Blk.setL (cs := (#[.slice AC nC cC, .int .i64 (a : Int), .slice l.AR gs.length l.cR, .slice l.AT told.length l.cT, .slice l.AE ret.length l.cE, .int .i64 (many : Int)] : Array Value).toList) hb7 2 (.slice A2 (gs.length + 1) c2)
  exact ⟨⟨by rw [List.length_append]; exact h1, h.low, by rw [List.length_append, List.map_append]; exact own2 (by decide) ho, own2 (by decide) (own (by decide) h.tol), h.tlen, fun i x t h2 h3 => bt2 (hbt (by decide) i x t h2 h3), own2 (by decide) (own (by decide) h.rt)⟩,
    (hO.mono fun _ _ e => .inr e).trans (hO2.mono fun _ _ e => .inl e)⟩
theorem PlM.pushE (h : PlM w6 B gp AC nC cC a gs told TA ret many l) (x : Int) (ho : Own w7 B 3 1 A2 (ret.length + 1) c2 ((ret.map fun e => .int .i64 e) ++ [.int .i64 x])) (hg : w6.grownBy w7 (l.AE.map (·.block))) :
    PlM (w7.setCell ⟨gp, 4, none⟩ (.slice A2 (ret.length + 1) c2)) B gp AC nC cC a gs told TA (ret ++ [x]) many ⟨l.AR, l.cR, l.AT, l.cT, A2, c2⟩ ∧ Only (fun b => b = gp ∨ l.AE.map (·.block) = some b) w6 (w7.setCell ⟨gp, 4, none⟩ (.slice A2 (ret.length + 1) c2)) := by
  obtain ⟨hO, own, hb, hbt⟩ := h.grow h.rt hg
  have hb7 := hb (by decide)
  obtain ⟨hO2, own2, bt2⟩ := PlM.putted (B := B) (i := 4) (v := .slice A2 (ret.length + 1) c2) hb7
  have h1 := Blk.setL (cs := (#[.slice AC nC cC, .int .i64 (a : Int), .slice l.AR gs.length l.cR, .slice l.AT told.length l.cT, .slice l.AE ret.length l.cE, .int .i64 (many : Int)] : Array Value).toList) hb7 4 (.slice A2 (ret.length + 1) c2)
  exact ⟨⟨by rw [List.length_append]; exact h1, h.low, own2 (by decide) (own (by decide) h.rows), own2 (by decide) (own (by decide) h.tol), h.tlen, fun i x t h2 h3 => bt2 (hbt (by decide) i x t h2 h3), by rw [List.length_append, List.map_append]; exact own2 (by decide) ho⟩,
    (hO.mono fun _ _ e => .inr e).trans (hO2.mono fun _ _ e => .inl e)⟩
theorem PlM.tell (h : PlM w6 B gp AC nC cC a gs told TA ret many l) {g : PGot} {t : Option Addr × Nat} (hB : Bt w6 t g.b) (ho : Own w7 B 71 3 A2 (told.length + 1) c2 ((told.zip TA).flatMap (fun x => gotCells x.1 x.2) ++ gotCells g t)) (hg : w6.grownBy w7 (l.AT.map (·.block))) :
    PlM (w7.setCell ⟨gp, 3, none⟩ (.slice A2 (told.length + 1) c2)) B gp AC nC cC a gs (told ++ [g]) (TA ++ [t]) ret many ⟨l.AR, l.cR, A2, c2, l.AE, l.cE⟩ ∧ Only (fun b => b = gp ∨ l.AT.map (·.block) = some b) w6 (w7.setCell ⟨gp, 3, none⟩ (.slice A2 (told.length + 1) c2)) := by
  obtain ⟨hO, own, hb, hbt⟩ := h.grow h.tol hg
  have hb7 := hb (by decide)
  obtain ⟨hO2, own2, bt2⟩ := PlM.putted (B := B) (i := 3) (v := .slice A2 (told.length + 1) c2) hb7
  have h1 := Blk.setL (cs := (#[.slice AC nC cC, .int .i64 (a : Int), .slice l.AR gs.length l.cR, .slice l.AT told.length l.cT, .slice l.AE ret.length l.cE, .int .i64 (many : Int)] : Array Value).toList) hb7 3 (.slice A2 (told.length + 1) c2)
  have hz : (told ++ [g]).zip (TA ++ [t]) = told.zip TA ++ [(g, t)] := by rw [List.zip_append h.tlen.symm]; rfl
  refine ⟨⟨by rw [List.length_append]; exact h1, h.low, own2 (by decide) (own (by decide) h.rows), ?_, by rw [List.length_append, List.length_append, h.tlen]; rfl, fun i x t2 h2 h3 => ?_, own2 (by decide) (own (by decide) h.rt)⟩, (hO.mono fun _ _ e => .inr e).trans (hO2.mono fun _ _ e => .inl e)⟩
  · rw [hz, List.flatMap_append, List.length_append]
    have h5 := own2 (by decide) ho
    simpa using h5
  · by_cases hi : i < told.length
    · rw [List.getElem?_append_left hi] at h2
      rw [List.getElem?_append_left (by rw [h.tlen]; exact hi)] at h3
      exact bt2 (hbt (by decide) i x t2 h2 h3)
    · have hlt := (List.getElem?_eq_some_iff.1 h2).1
      rw [List.length_append, List.length_singleton] at hlt
      have hi2 : i = told.length := by omega
      subst hi2
      rw [List.getElem?_append_right (Nat.le_refl _), Nat.sub_self] at h2
      rw [List.getElem?_append_right (by rw [h.tlen]; exact Nat.le_refl _), h.tlen, Nat.sub_self] at h3
      injection h2 with h2
      injection h3 with h3
      subst h2 h3
      refine bt2 (hB.only hO fun b hb e => ?_)
      obtain ⟨h4, -, -⟩ := ownG_form h.tol b e
      obtain ⟨cs, h5⟩ := own_ty h.tol h4
      exact absurd (blkT_eq hb h5.ty) (by decide)
end
/-- The calls of the script, in memory that nobody here writes; the room that bytes have. -/
structure CallsR (w : World) (B : Nat) (AC : Option Addr) (L : List PCall) : Prop where
  out : ∃ TC : List (Option Addr × Nat), TC.length = L.length ∧ RV w AC ((L.zip TC).flatMap fun x => callCells x.1 x.2) ∧ (0 < L.length → ∀ b o, AC = some ⟨b, o, none⟩ → b < B) ∧
    ∀ (i : Nat) (c : PCall) (t : Option Addr × Nat), L[i]? = some c → TC[i]? = some t → Sl w ⟨t.1, t.2, c.b⟩ ∧ (c.b.length ≤ 140737488351232 ∧ c.b.length ≤ t.2) ∧ (0 < c.b.length → ∀ b o, t.1 = some ⟨b, o, none⟩ → b < B)
theorem CallsR.only {S : Nat → Prop} {w w' : World} {B : Nat} {AC : Option Addr} {L : List PCall} (h : CallsR w B AC L) (ho : Only S w w') (hS : ∀ b, S b → B ≤ b) : CallsR w' B AC L := by
  obtain ⟨TC, h1, h2, h3, h4⟩ := h.out
  refine ⟨TC, h1, h2.only ho (fun hn b o e hs => by have := h3 (Nat.pos_of_ne_zero fun h0 => hn (by rw [List.eq_nil_of_length_eq_zero h0]; rfl)) b o e; have := hS b hs; omega), h3, fun i c t h5 h6 => ?_⟩
  obtain ⟨h7, h8, h9⟩ := h4 i c t h5 h6
  exact ⟨h7.only ho (fun b o h0 e hs => by have := h9 h0 b o e; have := hS b hs; omega), h8, h9⟩
end Go.Proofs.Ytefaapcekbgjoaa
