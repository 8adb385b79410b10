/- Drawn regions whose calls may make memory: the class of all worlds in which what was there is as it was. -/
import Derived.Test.YtcmpmhlcfalbhaaRegK
import Derived.Test.YtcmpmhlcfalbhaaBaseK
import Derived.Deep.MidRow
namespace Go.Proofs.Ytcmpmhlcfalbhaa
open Go.RowKit

/-- A world in which the blocks below B are those of w0. -/
structure BW (B : Nat) (w0 : World) where
  w : World
  h : Below B w0 w
instance {B : Nat} {w0 : World} : Nonempty (BW B w0) := ⟨⟨w0, Below.refl _ _⟩⟩
theorem BW.cell {B : Nat} {w0 : World} (x : BW B w0) {b o : Nat} (hb : b < B) : x.w.cell? ⟨b, o, none⟩ = w0.cell? ⟨b, o, none⟩ := (bcell x.h).1 b o hb
theorem BW.blk {B : Nat} {w0 : World} (x : BW B w0) {g : Nat} {t : TypeId} {cs : Array Value} (h : Blk w0 g t cs) (hg : g < B) : Blk x.w g t cs := h.below x.h hg
theorem BW.load {P : Program} {B : Nat} {w0 : World} {g : Nat} {t ty : TypeId} {cs : List Value} {d : TypeDesc} (h : Blk w0 g t cs.toArray) (hg : g < B) (hu : P.underlying ty = some d) (hd : d.isRow = true) (hi : (P.info? ty).map (·.size) = some cs.length) (x : BW B w0) :
    (Instr.loadAt ty (.pointer (some ⟨g, 0, none⟩))).run P x.w = .ok (.agg cs.toArray) x.w :=
  run_loadAt_mid x.w g 0 ty cs d (fun j v hv => by rw [Nat.zero_add, Blk.at_ (x.blk h hg)]; exact hv) hu hd hi
/-- A callee that makes memory and answers one value. -/
theorem Calls.inB {P : Program} {f : FuncId} {args : Array Value} {B : Nat} {w0 : World} {v : Value} (x : BW B w0) (h : ∀ w, B ≤ w.heap.size → Calls P f args w fun e w' => e = .returned v ∧ Below w.heap.size w w') (hB : B ≤ w0.heap.size) :
    Calls P f args x.w fun e w'' => e = .returned v ∧ ∃ y : BW B w0, w'' = y.w :=
  (h x.w (by have := x.h.size; omega)).mono fun _ _ ⟨he, hb⟩ => ⟨he, ⟨_, x.h.trans (hb.mono (by have := x.h.size; omega))⟩, rfl⟩
theorem Calls.inBat {P : Program} {f : FuncId} {args : Array Value} {B : Nat} {w0 : World} {v : Value} (x : BW B w0) (h : Calls P f args x.w fun e w' => e = .returned v ∧ Below x.w.heap.size x.w w') (hB : B ≤ w0.heap.size) :
    Calls P f args x.w fun e w'' => e = .returned v ∧ ∃ y : BW B w0, w'' = y.w :=
  h.mono fun _ _ ⟨he, hb⟩ => ⟨he, ⟨_, x.h.trans (hb.mono (by have := x.h.size; omega))⟩, rfl⟩
theorem Calls.inBsame {P : Program} {f : FuncId} {args : Array Value} {B : Nat} {w0 : World} {v : Value} (x : BW B w0) (h : Calls P f args x.w fun e w' => e = .returned v ∧ w' = x.w) :
    Calls P f args x.w fun e w'' => e = .returned v ∧ ∃ y : BW B w0, w'' = y.w :=
  h.mono fun _ _ ⟨he, hb⟩ => ⟨he, x, hb⟩
theorem Calls.inBdrew {P : Program} {f : FuncId} {args : Array Value} {B : Nat} {w0 : World} {v : Value} (x : BW B w0) (h : Calls P f args x.w fun e w' => e = .returned v ∧ ∃ m, w' = x.w.drewN m) :
    Calls P f args x.w fun e w'' => e = .returned v ∧ ∃ y : BW B w0, w'' = y.w :=
  h.mono fun _ _ ⟨he, m, hb⟩ => ⟨he, ⟨_, below_drewN x.h m⟩, hb⟩
/-- The region's rule at that class. -/
theorem region_inB {P : Program} {id : Nat} {Q : Exit → Act → World → Prop} {a : Act} {w : World} {l : List Oper} (B : Nat) (w0 : World) (hw : Below B w0 w) (hm : P.follows .mixedOrders = true) (hB : Region.lexB .any l.toArray = true)
    (h : wpQuiet P l.toArray (fun w' => ∃ x : BW B w0, w' = x.w) (fun a' => ∀ w', Below B w0 w' → Q .normal a' w') l a) : (Code.region id l.toArray true).wp P Q a w := by
  refine region_quiet (fun w' => ∃ x : BW B w0, w' = x.w) hm hB ⟨⟨_, below_drewN hw 1⟩, rfl⟩ ?_
  have e : (fun a' => ∀ w', Below B w0 w' → Q .normal a' w') = (fun a' => ∀ w', (∃ x : BW B w0, w' = x.w) → Q .normal a' w') := by
    funext a'
    apply propext
    exact ⟨fun h w' ⟨x, hx⟩ => by rw [hx]; exact h _ x.h, fun h w' hb => h w' ⟨⟨w', hb⟩, rfl⟩⟩
  rw [← e]
  exact h
/-- .. with a tail in its only order. -/
theorem region_inB_tail {P : Program} {id : Nat} {Q : Exit → Act → World → Prop} {a : Act} {w : World} {l : List Oper} (n B : Nat) (w0 : World) (hw : Below B w0 w) (hm : P.follows .mixedOrders = true) (hB : Region.lexTailB .any l.toArray n = true)
    (h : wpQuiet P l.toArray (fun w' => ∃ x : BW B w0, w' = x.w) (fun a' => ∀ w', Below B w0 w' → wpList P l.toArray Q (l.drop n) a' w') (l.take n) a) : (Code.region id l.toArray true).wp P Q a w := by
  refine region_quiet_tail n (fun w' => ∃ x : BW B w0, w' = x.w) hm hB ⟨⟨_, below_drewN hw 1⟩, rfl⟩ ?_
  have e : (fun a' => ∀ w', Below B w0 w' → wpList P l.toArray Q (l.drop n) a' w') = (fun a' => ∀ w', (∃ x : BW B w0, w' = x.w) → wpList P l.toArray Q (l.drop n) a' w') := by
    funext a'
    apply propext
    exact ⟨fun h w' ⟨x, hx⟩ => by rw [hx]; exact h _ x.h, fun h w' hb => h w' ⟨⟨w', hb⟩, rfl⟩⟩
  rw [← e]
  exact h
/-- An operation of a quiet region that is run by an equation, told by its slot. -/
theorem quiet_op {P : Program} {o : Oper} {a : Act} {C : World → Prop} {K : Act → Prop} (d : Nat) (_hd : o.dst = some d) {v : Value} (h : ∀ w, C w → (execOp a.eval o).run P w = .ok (.value v) w) (hk : K (a.put (some d) v)) : o.quiet P a C K := by
  refine ⟨v, fun w hw => ?_, ?_⟩
  · unfold Oper.quietAt
    rw [h w hw]
    exact ⟨rfl, rfl⟩
  · rw [_hd]; exact hk
/-- A load of a quiet region, by an equation. -/
theorem quiet_load {P : Program} {o : Oper} {a : Act} {C : World → Prop} {K : Act → Prop} (t : TypeId) (x : Operand) (ho : o.op = .load t x) {p v : Value} (hx : a.eval x = p) (h : ∀ w, C w → (Instr.loadAt t p).run P w = .ok v w) (hk : K (a.put o.dst v)) : o.quiet P a C K := by
  refine ⟨v, fun w hw => ?_, hk⟩
  unfold Oper.quietAt execOp
  simp only [ho, hx, Sem.run_bind, h w hw, Result.andThen_ok, Sem.run_pure]
  exact ⟨rfl, rfl⟩
end Go.Proofs.Ytcmpmhlcfalbhaa
