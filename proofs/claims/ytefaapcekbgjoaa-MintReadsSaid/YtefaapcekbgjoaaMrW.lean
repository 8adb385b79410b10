/- How a script of calls lies in memory: plain. -/
import Derived.Test.YtefaapcekbgjoaaMrL
import Derived.Test.YtefaapcekbgjoaaRdO
import Derived.Test.YtefaapcekbgjoaaGenL
namespace Go.Proofs.Ytefaapcekbgjoaa
open Go.RowKit

/-- A reader in memory: its block, and where its bytes lie. -/
structure Gm where
  g : Nat
  A : Option Addr
  c : Nat
abbrev pv (g : Nat) : Value := .pointer (some ⟨g, 0, none⟩)
def gotCells (x : PGot) (t : Option Addr × Nat) : List Value := [.int .i64 x.kind, .int .i64 x.n, .slice t.1 x.b.length t.2]
def callCells (x : PCall) (t : Option Addr × Nat) : List Value := [.int .i64 x.kind, .int .i64 x.n, .int .i64 x.out, .slice t.1 x.b.length t.2]
/-- The script's lists. -/
structure Sl7 where
  AR : Option Addr
  cR : Nat
  AK : Option Addr
  cK : Nat
  AT : Option Addr
  cT : Nat
  AE : Option Addr
  cE : Nat
def scriptCells (AC : Option Addr) (nC cC : Nat) (st : PS) (nR nK : Nat) (l : Sl7) : Array Value :=
  #[.slice AC nC cC, .int .i64 (st.at_ : Int), .slice l.AR nR l.cR, .slice l.AK nK l.cK, .slice l.AT st.told.length l.cT, .slice l.AE st.ret.length l.cE, .bool false]
/-- A block of elements of a type, whatever its marks. -/
def BlkT (w : World) (b : Nat) (t : TypeId) : Prop := ∃ cs k, w.heap[b]? = some (.cells cs t k)
theorem Blk.ty {w : World} {b : Nat} {t : TypeId} {cs : Array Value} (h : Blk w b t cs) : BlkT w b t := ⟨cs, (0, 0), h⟩
theorem BlkT.lt {w : World} {b : Nat} {t : TypeId} (h : BlkT w b t) : b < w.heap.size := by
  obtain ⟨cs, k, h⟩ := h
  exact (Array.getElem?_eq_some_iff.1 h).1
theorem BlkT.only {S : Nat → Prop} {w w' : World} {b : Nat} {t : TypeId} (h : BlkT w b t) (ho : Only S w w') (hn : ¬ S b) : BlkT w' b t := by
  have hl := h.lt
  obtain ⟨cs, k, h⟩ := h
  exact ⟨cs, k, (ho.block b hl hn).trans h⟩
theorem blkT_eq {w : World} {t t' : TypeId} {b : Nat} (h : BlkT w b t) (h' : BlkT w b t') : t = t' := by
  obtain ⟨cs, k, h⟩ := h
  obtain ⟨cs', k', h'⟩ := h'
  have e := h.symm.trans h'
  injection e with e
  injection e
/-- Bytes that were told. -/
structure Bt (w : World) (t : Option Addr × Nat) (ys : List UInt8) : Prop where
  rv : RV w t.1 (ys.map bv)
  ty : ∀ b o, t.1 = some ⟨b, o, none⟩ → BlkT w b 5
theorem Bt.only {S : Nat → Prop} {w w' : World} {t : Option Addr × Nat} {ys : List UInt8} (h : Bt w t ys) (ho : Only S w w') (hA : ∀ b, BlkT w b 5 → ¬ S b) : Bt w' t ys :=
  ⟨h.rv.only ho fun _ b o e => hA b (h.ty b o e), fun b o e => (h.ty b o e).only ho (hA b (h.ty b o e))⟩
/-- The script as it lies: ms: the readers within one another; ks: all readers that there were; TA: where the bytes that were told lie. -/
structure ScM (w : World) (B gs : Nat) (AC : Option Addr) (nC cC : Nat) (st : PS) (ms : List Gm) (ks : List Gm) (TA : List (Option Addr × Nat)) (l : Sl7) : Prop where
  blk : Blk w gs 59 (scriptCells AC nC cC st ms.length ks.length l)
  low : B ≤ gs
  rows : Own w B 49 1 l.AR ms.length l.cR (ms.map fun m => pv m.g)
  kept : Own w B 49 1 l.AK ks.length l.cK (ks.map fun m => pv m.g)
  apart : ∀ b, l.AR.map (·.block) = some b → l.AK.map (·.block) ≠ some b
  told : Own w B 71 3 l.AT st.told.length l.cT ((st.told.zip TA).flatMap fun x => gotCells x.1 x.2)
  tlen : TA.length = st.told.length
  tb : ∀ (i : Nat) (x : PGot) (t : Option Addr × Nat), st.told[i]? = some x → TA[i]? = some t → Bt w t x.b
  ret : Own w B 37 1 l.AE st.ret.length l.cE (st.ret.map fun e => .int .i64 e)
  rlen : ms.length = st.rs.length
  many : ks.length = st.many
  sole : ∀ (i j : Nat) (m n : Gm), ms[i]? = some m → ms[j]? = some n → i ≠ j → m.g ≠ n.g
  base : ∀ m ∈ ms, B ≤ m.g
/-- A reader whose bytes lie in a block of bytes. -/
structure RdT (w : World) (m : Gm) (bs : List UInt8) (a : Nat) (o : Bool) (f : Int) : Prop where
  rd : Rd w m.g m.A m.c bs a o f
  ty : ∀ b o, m.A = some ⟨b, o, none⟩ → BlkT w b 5
theorem RdT.only {S : Nat → Prop} {w w' : World} {m : Gm} {bs : List UInt8} {a : Nat} {o : Bool} {f : Int} (h : RdT w m bs a o f) (ho : Only S w w') (hg : ¬ S m.g) (hA : ∀ b, BlkT w b 5 → ¬ S b) : RdT w' m bs a o f :=
  ⟨h.rd.only ho hg fun b o e => hA b (h.ty b o e), fun b o e => (h.ty b o e).only ho (hA b (h.ty b o e))⟩
theorem RdT.below {w w' : World} {m : Gm} {bs : List UInt8} {a : Nat} {o : Bool} {f : Int} (h : RdT w m bs a o f) (hb : Below w.heap.size w w') : RdT w' m bs a o f := h.only (S := fun _ => False) (Only.of_fresh hb) (fun h => h) fun _ _ h => h
/-- The readers within one another: t of them live; x: the one that has met a fault, if any. -/
structure RdsM (w : World) (st : PS) (ms : List Gm) (ks : List Gm) (t : Nat) (x : Option (Nat × Int)) : Prop where
  good : ∀ (i : Nat) (m : Gm) (r : List UInt8 × Nat), i < t → ms[i]? = some m → st.rs[i]? = some r → (∀ y, x = some y → y.1 ≠ i) → RdT w m r.1 r.2 false 0 ∧ r.1.length ≤ 140737488351232
  bad : ∀ (y : Nat × Int) (m : Gm) (r : List UInt8 × Nat), x = some y → ms[y.1]? = some m → st.rs[y.1]? = some r → ∃ a, RdT w m r.1 a true y.2
  over : ∀ n ∈ ks, (∃ i, i < t ∧ ms[i]? = some n) ∨ ∃ bs a f, RdT w n bs a true f
theorem own_take {w : World} {B n c : Nat} {e : TypeId} {A : Option Addr} {vs : List Value} (h : Own w B e 1 A n c vs) (k : Nat) (hk : k ≤ n) : Own w B e 1 A k c (vs.take k) := by
  obtain ⟨hl, h2⟩ := h
  refine ⟨by rw [List.length_take]; omega, ?_⟩
  rcases h2 with ⟨hv, h0⟩ | ⟨g', cap, cur, hv, hg, hh, hnc, hcm, hcs, htake⟩
  · injection hv with h1 h2 h3
    exact .inl ⟨by rw [h1, h3, show k = 0 by omega], by omega⟩
  · injection hv with h1 h2 h3
    refine .inr ⟨g', cap, cur, by rw [h1, h3], hg, hh, by omega, hcm, hcs, ?_⟩
    rw [← htake, List.take_take, Nat.mul_one, Nat.mul_one, Nat.min_eq_left hk]
section
variable {w w' : World} {B gs nC cC : Nat} {AC : Option Addr} {st : PS} {ms : List Gm} {ks : List Gm} {TA : List (Option Addr × Nat)} {l : Sl7} {t : Nat} {x : Option (Nat × Int)}
theorem ScM.below (h : ScM w B gs AC nC cC st ms ks TA l) (hb : Below w.heap.size w w') : ScM w' B gs AC nC cC st ms ks TA l :=
  ⟨h.blk.below hb h.blk.lt, h.low, Own.below h.rows hb (Nat.le_refl _), Own.below h.kept hb (Nat.le_refl _), h.apart, Own.below h.told hb (Nat.le_refl _), h.tlen, fun i x t h1 h2 => (h.tb i x t h1 h2).only (S := fun _ => False) (Only.of_fresh hb) (fun _ _ h => h), Own.below h.ret hb (Nat.le_refl _), h.rlen, h.many, h.sole, h.base⟩
theorem RdsM.only {S : Nat → Prop} (h : RdsM w st ms ks t x) (ho : Only S w w') (hg : ∀ g cs, Blk w g 105 cs → ¬ S g) (hA : ∀ b, BlkT w b 5 → ¬ S b) : RdsM w' st ms ks t x :=
  ⟨fun i m r h1 h2 h3 h4 => ⟨(h.good i m r h1 h2 h3 h4).1.only ho (hg _ _ (h.good i m r h1 h2 h3 h4).1.rd.blk) hA, (h.good i m r h1 h2 h3 h4).2⟩, fun y m r h1 h2 h5 => by
    obtain ⟨a, h3⟩ := h.bad y m r h1 h2 h5
    exact ⟨a, h3.only ho (hg _ _ h3.rd.blk) hA⟩, fun n hn => by
    rcases h.over n hn with h1 | ⟨bs, a, f, h1⟩
    · exact .inl h1
    · exact .inr ⟨bs, a, f, h1.only ho (hg _ _ h1.rd.blk) hA⟩⟩
theorem RdsM.below (h : RdsM w st ms ks t x) (hb : Below w.heap.size w w') : RdsM w' st ms ks t x := h.only (S := fun _ => False) (Only.of_fresh hb) (fun _ _ _ h => h) fun _ _ h => h
theorem ScM.only {S : Nat → Prop} (h : ScM w B gs AC nC cC st ms ks TA l) (ho : Only S w w') (hn : ∀ b t, BlkT w b t → t ≠ 105 → ¬ S b) : ScM w' B gs AC nC cC st ms ks TA l := by
  have own : ∀ {e : TypeId} {sz n c : Nat} {A : Option Addr} {vs : List Value}, e ≠ 105 → Own w B e sz A n c vs → Own w' B e sz A n c vs := fun he ho2 => Own.only ho2 ho fun b o e2 => by
    obtain ⟨cs, hb⟩ := own_ty ho2 e2
    exact hn b _ hb.ty he
  exact ⟨h.blk.only ho (hn gs _ h.blk.ty (by decide)), h.low, own (by decide) h.rows, own (by decide) h.kept, h.apart, own (by decide) h.told, h.tlen, fun i x t h1 h2 => (h.tb i x t h1 h2).only ho fun b hb => hn b _ hb (by decide), own (by decide) h.ret, h.rlen, h.many, h.sole, h.base⟩
/-- One reader has gone on, or fallen. -/
theorem RdsM.go {j : Nat} {m : Gm} {bs2 : List UInt8} {a2 : Nat} {o2 : Bool} {f2 : Int} (h : RdsM w st ms ks t none) (hS : ∀ (i j : Nat) (m n : Gm), ms[i]? = some m → ms[j]? = some n → i ≠ j → m.g ≠ n.g) (hm : ms[j]? = some m) (hj : j < t) (hr : j < st.rs.length) (ho : Only (fun b => b = m.g) w w') (hn : RdT w' m bs2 a2 o2 f2) :
    (o2 = false → f2 = 0 → bs2 = (st.rs.getD j ([], 0)).1 → ∀ g, RdsM w' (st.tell j a2 g) ms ks t none) ∧ (o2 = true → bs2 = (st.rs.getD j ([], 0)).1 → RdsM w' st ms ks t (some (j, f2))) := by
  have hrj : st.rs[j]? = some st.rs[j] := List.getElem?_eq_getElem hr
  obtain ⟨hjd, hjl⟩ := h.good j m _ hj hm hrj (fun y e => by cases e)
  have hre : Blk w m.g 105 _ := hjd.rd.blk
  have hty : ∀ b, BlkT w b 5 → ¬ b = m.g := fun b hb e => by
    subst e
    exact absurd (blkT_eq hb hre.ty) (by decide)
  have hoth : ∀ (i : Nat) (n : Gm) (r : List UInt8 × Nat), i < t → i ≠ j → ms[i]? = some n → st.rs[i]? = some r → RdT w' n r.1 r.2 false 0 ∧ r.1.length ≤ 140737488351232 := fun i n r h1 h2 h3 h4 => by
    obtain ⟨h5, h6⟩ := h.good i n r h1 h3 h4 (fun y e => by cases e)
    exact ⟨h5.only ho (fun e => hS i j n m h3 hm h2 e) hty, h6⟩
  have hov : ∀ n ∈ ks, (∃ i, i < t ∧ ms[i]? = some n) ∨ ∃ bs a f, RdT w' n bs a true f := fun n hn => by
    rcases h.over n hn with h1 | ⟨bs, a, f, h1⟩
    · exact .inl h1
    · refine .inr ⟨bs, a, f, h1.only ho (fun e2 => ?_) hty⟩
      have c1 := h1.rd.c2
      have c2 := hjd.rd.c2
      rw [e2] at c1
      rw [c1] at c2
      cases c2
  refine ⟨fun e1 e2 e3 g => ⟨fun i n r h1 h2 h3 h4 => ?_, fun y n r e => (by cases e), hov⟩, fun e1 e3 => ⟨fun i n r h1 h2 h3 h4 => hoth i n r h1 (fun e => h4 (j, f2) rfl e.symm) h2 h3, fun y n r e h2 h3 => ?_, hov⟩⟩
  · by_cases hi : i = j
    · subst hi
      rw [hm] at h2
      injection h2 with h2
      subst h2
      change (st.rs.set i _)[i]? = some r at h3
      rw [List.getElem?_set_self hr] at h3
      injection h3 with h3
      subst h3
      subst e1 e2 e3
      refine ⟨hn, ?_⟩
      rw [List.getD_eq_getElem?_getD, hrj]
      exact hjl
    · change (st.rs.set j _)[i]? = some r at h3
      rw [List.getElem?_set_ne (fun e => hi e.symm)] at h3
      exact hoth i n r h1 hi h2 h3
  · injection e with e
    subst e
    rw [hm] at h2
    injection h2 with h2
    subst h2 e1
    refine ⟨a2, ?_⟩
    have e4 : bs2 = r.1 := by rw [e3, List.getD_eq_getElem?_getD, h3]; rfl
    rw [← e4]
    exact hn
end
end Go.Proofs.Ytefaapcekbgjoaa
