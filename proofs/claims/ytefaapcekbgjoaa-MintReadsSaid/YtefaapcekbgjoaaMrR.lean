/- The script's block while its lists are appended to and its place goes on: plain. -/
import Derived.Test.YtefaapcekbgjoaaMrC
namespace Go.Proofs.Ytefaapcekbgjoaa
open Go.RowKit

/-- The script as it lies, without what its lists mean. -/
structure ScR (w : World) (B gs : Nat) (AC : Option Addr) (nC cC a : Nat) (vR vK : List Nat) (told : List PGot) (TA : List (Option Addr × Nat)) (ret : List Int) (l : Sl7) : Prop where
  blk : Blk w gs 59 #[.slice AC nC cC, .int .i64 (a : Int), .slice l.AR vR.length l.cR, .slice l.AK vK.length l.cK, .slice l.AT told.length l.cT, .slice l.AE ret.length l.cE, .bool false]
  low : B ≤ gs
  rows : Own w B 49 1 l.AR vR.length l.cR (vR.map pv)
  kept : Own w B 49 1 l.AK vK.length l.cK (vK.map pv)
  apart : ∀ b, l.AR.map (·.block) = some b → l.AK.map (·.block) ≠ some b
  tol : Own w B 71 3 l.AT told.length l.cT ((told.zip TA).flatMap fun x => gotCells x.1 x.2)
  tlen : TA.length = told.length
  tb : ∀ (i : Nat) (x : PGot) (t : Option Addr × Nat), told[i]? = some x → TA[i]? = some t → Bt w t x.b
  rt : Own w B 37 1 l.AE ret.length l.cE (ret.map fun e => .int .i64 e)
section
variable {w w' w6 w7 : World} {B gs nC cC a : Nat} {AC A2 : Option Addr} {c2 : Nat} {vR vK : List Nat} {told : List PGot} {TA : List (Option Addr × Nat)} {ret : List Int} {l : Sl7}
theorem ScM.raw {st : PS} {ms ks : List Gm} (h : ScM w B gs AC nC cC st ms ks TA l) : ScR w B gs AC nC cC st.at_ (ms.map Gm.g) (ks.map Gm.g) st.told TA st.ret l :=
  ⟨by have h1 := h.blk; unfold scriptCells at h1; rw [List.length_map, List.length_map]; exact h1, h.low, by have h1 := h.rows; rw [List.length_map, List.map_map]; exact h1, by have h1 := h.kept; rw [List.length_map, List.map_map]; exact h1, h.apart, h.told, h.tlen, h.tb, h.ret⟩
theorem ScR.mk' {st : PS} {ms ks : List Gm} (h : ScR w B gs AC nC cC st.at_ (ms.map Gm.g) (ks.map Gm.g) st.told TA st.ret l) (h1 : ms.length = st.rs.length) (h2 : ks.length = st.many) (h3 : ∀ (i j : Nat) (m n : Gm), ms[i]? = some m → ms[j]? = some n → i ≠ j → m.g ≠ n.g) (h4 : ∀ m ∈ ms, B ≤ m.g) : ScM w B gs AC nC cC st ms ks TA l :=
  ⟨by have h5 := h.blk; rw [List.length_map, List.length_map] at h5; exact h5, h.low, by have h5 := h.rows; rw [List.length_map, List.map_map] at h5; exact h5, by have h5 := h.kept; rw [List.length_map, List.map_map] at h5; exact h5, h.apart, h.tol, h.tlen, h.tb, h.rt, h1, h2, h3, h4⟩
theorem ScR.only {S : Nat → Prop} (h : ScR w B gs AC nC cC a vR vK told TA ret l) (ho : Only S w w') (hn : ∀ b t, BlkT w b t → t ≠ 105 → ¬ S b) : ScR w' B gs AC nC cC a vR vK told TA ret l := by
  have own : ∀ {e : TypeId} {sz n c : Nat} {A : Option Addr} {vs : List Value}, e ≠ 105 → Own w B e sz A n c vs → Own w' B e sz A n c vs := fun he ho2 => Own.only ho2 ho fun b o e2 => by
    obtain ⟨cs, hb⟩ := own_ty ho2 e2
    exact hn b _ hb.ty he
  exact ⟨h.blk.only ho (hn gs _ h.blk.ty (by decide)), h.low, own (by decide) h.rows, own (by decide) h.kept, h.apart, own (by decide) h.tol, h.tlen, fun i x t h1 h2 => (h.tb i x t h1 h2).only ho fun b hb => hn b _ hb (by decide), own (by decide) h.rt⟩
theorem ScR.below (h : ScR w B gs AC nC cC a vR vK told TA ret l) (hb : Below w.heap.size w w') : ScR w' B gs AC nC cC a vR vK told TA ret l := h.only (S := fun _ => False) (Only.of_fresh hb) fun _ _ _ _ h => h
/-- One cell of the script's block is written: nothing else turns. -/
theorem ScR.put (h : ScR w B gs AC nC cC a vR vK told TA ret l) (i : Nat) (v : Value) :
    Blk (w.setCell ⟨gs, i, none⟩ v) gs 59 ((#[.slice AC nC cC, .int .i64 (a : Int), .slice l.AR vR.length l.cR, .slice l.AK vK.length l.cK, .slice l.AT told.length l.cT, .slice l.AE ret.length l.cE, .bool false] : Array Value).toList.set i v).toArray ∧
    Own (w.setCell ⟨gs, i, none⟩ v) B 49 1 l.AR vR.length l.cR (vR.map pv) ∧ Own (w.setCell ⟨gs, i, none⟩ v) B 49 1 l.AK vK.length l.cK (vK.map pv) ∧
    Own (w.setCell ⟨gs, i, none⟩ v) B 71 3 l.AT told.length l.cT ((told.zip TA).flatMap fun x => gotCells x.1 x.2) ∧ (∀ (i' : Nat) (x : PGot) (t : Option Addr × Nat), told[i']? = some x → TA[i']? = some t → Bt (w.setCell ⟨gs, i, none⟩ v) t x.b) ∧
    Own (w.setCell ⟨gs, i, none⟩ v) B 37 1 l.AE ret.length l.cE (ret.map fun e => .int .i64 e) ∧ Only (fun b => b = gs) w (w.setCell ⟨gs, i, none⟩ v) := by
  have hO : Only (fun b => b = gs) w (w.setCell ⟨gs, i, none⟩ v) := (Only.refl (fun b => b = gs) w).setCell (p := ⟨gs, i, none⟩) (.inl rfl) _
  have hn : ∀ b ty, BlkT w b ty → ty ≠ 59 → ¬ b = gs := fun b ty hb ht e => by rw [e] at hb; exact ht (blkT_eq hb h.blk.ty)
  have own : ∀ {e : TypeId} {sz n c : Nat} {A : Option Addr} {vs : List Value}, e ≠ 59 → Own w B e sz A n c vs → Own (w.setCell ⟨gs, i, none⟩ v) B e sz A n c vs := fun he ho2 => Own.only ho2 hO fun b o e2 => by
    obtain ⟨cs, hb⟩ := own_ty ho2 e2
    exact hn b _ hb.ty he
  exact ⟨Blk.setL (cs := (#[.slice AC nC cC, .int .i64 (a : Int), .slice l.AR vR.length l.cR, .slice l.AK vK.length l.cK, .slice l.AT told.length l.cT, .slice l.AE ret.length l.cE, .bool false] : Array Value).toList) h.blk i v, own (by decide) h.rows, own (by decide) h.kept, own (by decide) h.tol, fun i' x t h1 h2 => (h.tb i' x t h1 h2).only hO fun b hb => hn b _ hb (by decide), own (by decide) h.rt, hO⟩
theorem ScR.setAt (h : ScR w B gs AC nC cC a vR vK told TA ret l) (k : Nat) : ScR (w.setCell ⟨gs, 1, none⟩ (.int .i64 (k : Int))) B gs AC nC cC k vR vK told TA ret l ∧ Only (fun b => b = gs) w (w.setCell ⟨gs, 1, none⟩ (.int .i64 (k : Int))) := by
  obtain ⟨h1, h2, h3, h4, h5, h6, h7⟩ := h.put 1 (.int .i64 (k : Int))
  exact ⟨⟨h1, h.low, h2, h3, h.apart, h4, h.tlen, h5, h6⟩, h7⟩
theorem ScR.cutR (h : ScR w B gs AC nC cC a vR vK told TA ret l) (k : Nat) (hk : k ≤ vR.length) : ScR (w.setCell ⟨gs, 2, none⟩ (.slice l.AR k l.cR)) B gs AC nC cC a (vR.take k) vK told TA ret l ∧ Only (fun b => b = gs) w (w.setCell ⟨gs, 2, none⟩ (.slice l.AR k l.cR)) := by
  obtain ⟨h1, h2, h3, h4, h5, h6, h7⟩ := h.put 2 (.slice l.AR k l.cR)
  have hl : (vR.take k).length = k := by rw [List.length_take]; omega
  exact ⟨⟨by rw [hl]; exact h1, h.low, by rw [hl, List.map_take]; exact own_take h2 k hk, h3, h.apart, h4, h.tlen, h5, h6⟩, h7⟩
/-- A list of another kind than the rest is appended to. -/
theorem ScR.grow {AX : Option Addr} {e : TypeId} {sz n c : Nat} {vs : List Value} (h : ScR w6 B gs AC nC cC a vR vK told TA ret l) (hx : Own w6 B e sz AX n c vs) (hg : w6.grownBy w7 (AX.map (·.block))) :
    Only (fun b => AX.map (·.block) = some b) w6 w7 ∧ (e ≠ 59 → Blk w7 gs 59 #[.slice AC nC cC, .int .i64 (a : Int), .slice l.AR vR.length l.cR, .slice l.AK vK.length l.cK, .slice l.AT told.length l.cT, .slice l.AE ret.length l.cE, .bool false]) ∧
    (e ≠ 71 → Own w7 B 71 3 l.AT told.length l.cT ((told.zip TA).flatMap fun x => gotCells x.1 x.2)) ∧ (e ≠ 5 → ∀ (i' : Nat) (x : PGot) (t : Option Addr × Nat), told[i']? = some x → TA[i']? = some t → Bt w7 t x.b) ∧
    (e ≠ 37 → Own w7 B 37 1 l.AE ret.length l.cE (ret.map fun e => .int .i64 e)) := by
  have hO : Only (fun b => AX.map (·.block) = some b) w6 w7 := Only.of_grown hg fun k e => e
  have hat : ∀ b, AX.map (·.block) = some b → BlkT w6 b e := fun b e1 => by
    obtain ⟨h1, -, -⟩ := ownG_form hx b e1
    obtain ⟨cs, h2⟩ := own_ty hx h1
    exact h2.ty
  have hn : ∀ b ty, BlkT w6 b ty → ty ≠ e → ¬ AX.map (·.block) = some b := fun b ty hb ht e1 => ht (blkT_eq hb (hat b e1))
  exact ⟨hO, fun he => h.blk.only hO (hn gs _ h.blk.ty (Ne.symm he)), fun he => Own.only h.tol hO fun b o e2 => by
    obtain ⟨cs, hb⟩ := own_ty h.tol e2
    exact hn b _ hb.ty (Ne.symm he), fun he i' x t h1 h2 => (h.tb i' x t h1 h2).only hO fun b hb => hn b _ hb (Ne.symm he), fun he => Own.only h.rt hO fun b o e2 => by
    obtain ⟨cs, hb⟩ := own_ty h.rt e2
    exact hn b _ hb.ty (Ne.symm he)⟩
theorem ScR.pushR (h : ScR w6 B gs AC nC cC a vR vK told TA ret l) (g : Nat) (ho : Own w7 B 49 1 A2 (vR.length + 1) c2 (vR.map pv ++ [pv g])) (hg : w6.grownBy w7 (l.AR.map (·.block))) (hA : A2.map (·.block) = l.AR.map (·.block) ∨ A2.map (·.block) = some w6.heap.size) :
    ScR (w7.setCell ⟨gs, 2, none⟩ (.slice A2 (vR.length + 1) c2)) B gs AC nC cC a (vR ++ [g]) vK told TA ret ⟨A2, c2, l.AK, l.cK, l.AT, l.cT, l.AE, l.cE⟩ ∧ Only (fun b => b = gs ∨ l.AR.map (·.block) = some b) w6 (w7.setCell ⟨gs, 2, none⟩ (.slice A2 (vR.length + 1) c2)) := by
  obtain ⟨hO, hb, ht, hbt, hre⟩ := h.grow h.rows hg
  have hk7 : Own w7 B 49 1 l.AK vK.length l.cK (vK.map pv) := Own.only h.kept hO fun b o e e2 => h.apart b e2 (by rw [e]; rfl)
  have hap : ∀ b, A2.map (·.block) = some b → l.AK.map (·.block) ≠ some b := fun b e e2 => by
    rcases hA with hA | hA
    · exact h.apart b (by rw [← hA]; exact e) e2
    · rw [e] at hA
      injection hA with hA
      have := (Own.row h.kept b e2).2
      omega
  have hO2 : Only (fun b => b = gs) w7 (w7.setCell ⟨gs, 2, none⟩ (.slice A2 (vR.length + 1) c2)) := (Only.refl (fun b => b = gs) w7).setCell (p := ⟨gs, 2, none⟩) (.inl rfl) _
  have hb7 := hb (by decide)
  have hn : ∀ b ty, BlkT w7 b ty → ty ≠ 59 → ¬ b = gs := fun b ty hb ht e => by rw [e] at hb; exact ht (blkT_eq hb hb7.ty)
  have own : ∀ {e : TypeId} {sz n c : Nat} {A : Option Addr} {vs : List Value}, e ≠ 59 → Own w7 B e sz A n c vs → Own (w7.setCell ⟨gs, 2, none⟩ (.slice A2 (vR.length + 1) c2)) B e sz A n c vs := fun he ho2 => Own.only ho2 hO2 fun b o e2 => by
    obtain ⟨cs, hb⟩ := own_ty ho2 e2
    exact hn b _ hb.ty he
  have h1 := Blk.setL (cs := (#[.slice AC nC cC, .int .i64 (a : Int), .slice l.AR vR.length l.cR, .slice l.AK vK.length l.cK, .slice l.AT told.length l.cT, .slice l.AE ret.length l.cE, .bool false] : Array Value).toList) hb7 2 (.slice A2 (vR.length + 1) c2)
  exact ⟨⟨by rw [List.length_append]; exact h1, h.low, by rw [List.length_append, List.map_append]; exact own (by decide) ho, own (by decide) hk7, hap, own (by decide) (ht (by decide)), h.tlen, fun i x t h2 h3 => (hbt (by decide) i x t h2 h3).only hO2 fun b hb => hn b _ hb (by decide), own (by decide) (hre (by decide))⟩,
    (hO.mono fun _ _ e => .inr e).trans (hO2.mono fun _ _ e => .inl e)⟩
theorem ScR.pushK (h : ScR w6 B gs AC nC cC a vR vK told TA ret l) (g : Nat) (ho : Own w7 B 49 1 A2 (vK.length + 1) c2 (vK.map pv ++ [pv g])) (hg : w6.grownBy w7 (l.AK.map (·.block))) (hA : A2.map (·.block) = l.AK.map (·.block) ∨ A2.map (·.block) = some w6.heap.size) :
    ScR (w7.setCell ⟨gs, 3, none⟩ (.slice A2 (vK.length + 1) c2)) B gs AC nC cC a vR (vK ++ [g]) told TA ret ⟨l.AR, l.cR, A2, c2, l.AT, l.cT, l.AE, l.cE⟩ ∧ Only (fun b => b = gs ∨ l.AK.map (·.block) = some b) w6 (w7.setCell ⟨gs, 3, none⟩ (.slice A2 (vK.length + 1) c2)) := by
  obtain ⟨hO, hb, ht, hbt, hre⟩ := h.grow h.kept hg
  have hk7 : Own w7 B 49 1 l.AR vR.length l.cR (vR.map pv) := Own.only h.rows hO fun b o e e2 => h.apart b (by rw [e]; rfl) e2
  have hap : ∀ b, l.AR.map (·.block) = some b → A2.map (·.block) ≠ some b := fun b e e2 => by
    rcases hA with hA | hA
    · exact h.apart b e (by rw [← hA]; exact e2)
    · rw [e2] at hA
      injection hA with hA
      have := (Own.row h.rows b e).2
      omega
  have hO2 : Only (fun b => b = gs) w7 (w7.setCell ⟨gs, 3, none⟩ (.slice A2 (vK.length + 1) c2)) := (Only.refl (fun b => b = gs) w7).setCell (p := ⟨gs, 3, none⟩) (.inl rfl) _
  have hb7 := hb (by decide)
  have hn : ∀ b ty, BlkT w7 b ty → ty ≠ 59 → ¬ b = gs := fun b ty hb ht e => by rw [e] at hb; exact ht (blkT_eq hb hb7.ty)
  have own : ∀ {e : TypeId} {sz n c : Nat} {A : Option Addr} {vs : List Value}, e ≠ 59 → Own w7 B e sz A n c vs → Own (w7.setCell ⟨gs, 3, none⟩ (.slice A2 (vK.length + 1) c2)) B e sz A n c vs := fun he ho2 => Own.only ho2 hO2 fun b o e2 => by
    obtain ⟨cs, hb⟩ := own_ty ho2 e2
    exact hn b _ hb.ty he
  have h1 := Blk.setL (cs := (#[.slice AC nC cC, .int .i64 (a : Int), .slice l.AR vR.length l.cR, .slice l.AK vK.length l.cK, .slice l.AT told.length l.cT, .slice l.AE ret.length l.cE, .bool false] : Array Value).toList) hb7 3 (.slice A2 (vK.length + 1) c2)
  exact ⟨⟨by rw [List.length_append]; exact h1, h.low, own (by decide) hk7, by rw [List.length_append, List.map_append]; exact own (by decide) ho, hap, own (by decide) (ht (by decide)), h.tlen, fun i x t h2 h3 => (hbt (by decide) i x t h2 h3).only hO2 fun b hb => hn b _ hb (by decide), own (by decide) (hre (by decide))⟩,
    (hO.mono fun _ _ e => .inr e).trans (hO2.mono fun _ _ e => .inl e)⟩
theorem ScR.pushE (h : ScR w6 B gs AC nC cC a vR vK told TA ret l) (x : Int) (ho : Own w7 B 37 1 A2 (ret.length + 1) c2 ((ret.map fun e => .int .i64 e) ++ [.int .i64 x])) (hg : w6.grownBy w7 (l.AE.map (·.block))) :
    ScR (w7.setCell ⟨gs, 5, none⟩ (.slice A2 (ret.length + 1) c2)) B gs AC nC cC a vR vK told TA (ret ++ [x]) ⟨l.AR, l.cR, l.AK, l.cK, l.AT, l.cT, A2, c2⟩ ∧ Only (fun b => b = gs ∨ l.AE.map (·.block) = some b) w6 (w7.setCell ⟨gs, 5, none⟩ (.slice A2 (ret.length + 1) c2)) := by
  obtain ⟨hO, hb, ht, hbt, hre⟩ := h.grow h.rt hg
  have hat : ∀ {A : Option Addr} {n c : Nat} {vs : List Value}, Own w6 B 49 1 A n c vs → Own w7 B 49 1 A n c vs := fun ho2 => Own.only ho2 hO fun b o e e2 => ownG_ne h.rt ho2 (by decide) b e2 (by rw [e]; rfl)
  have hO2 : Only (fun b => b = gs) w7 (w7.setCell ⟨gs, 5, none⟩ (.slice A2 (ret.length + 1) c2)) := (Only.refl (fun b => b = gs) w7).setCell (p := ⟨gs, 5, none⟩) (.inl rfl) _
  have hb7 := hb (by decide)
  have hn : ∀ b ty, BlkT w7 b ty → ty ≠ 59 → ¬ b = gs := fun b ty hb ht e => by rw [e] at hb; exact ht (blkT_eq hb hb7.ty)
  have own : ∀ {e : TypeId} {sz n c : Nat} {A : Option Addr} {vs : List Value}, e ≠ 59 → Own w7 B e sz A n c vs → Own (w7.setCell ⟨gs, 5, none⟩ (.slice A2 (ret.length + 1) c2)) B e sz A n c vs := fun he ho2 => Own.only ho2 hO2 fun b o e2 => by
    obtain ⟨cs, hb⟩ := own_ty ho2 e2
    exact hn b _ hb.ty he
  have h1 := Blk.setL (cs := (#[.slice AC nC cC, .int .i64 (a : Int), .slice l.AR vR.length l.cR, .slice l.AK vK.length l.cK, .slice l.AT told.length l.cT, .slice l.AE ret.length l.cE, .bool false] : Array Value).toList) hb7 5 (.slice A2 (ret.length + 1) c2)
  exact ⟨⟨by rw [List.length_append]; exact h1, h.low, own (by decide) (hat h.rows), own (by decide) (hat h.kept), h.apart, own (by decide) (ht (by decide)), h.tlen, fun i x t h2 h3 => (hbt (by decide) i x t h2 h3).only hO2 fun b hb => hn b _ hb (by decide), by rw [List.length_append, List.map_append]; exact own (by decide) ho⟩,
    (hO.mono fun _ _ e => .inr e).trans (hO2.mono fun _ _ e => .inl e)⟩
end
end Go.Proofs.Ytefaapcekbgjoaa
