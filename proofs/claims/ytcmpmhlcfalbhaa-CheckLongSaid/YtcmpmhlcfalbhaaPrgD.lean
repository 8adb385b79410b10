/- What Decode is to tell, in plain Lean; a program of the call's own. -/
import Derived.Test.YtcmpmhlcfalbhaaOwnT
import Derived.Test.YtcmpmhlcfalbhaaPrgE
import Derived.Test.YtcmpmhlcfalbhaaDecK
import Derived.Test.YtcmpmhlcfalbhaaRdK
namespace Go.Proofs.Ytcmpmhlcfalbhaa
open Go.RowKit

/-- What reading on tells: something and where it ends; a Reader's fault; code that is refused. -/
inductive Res (α : Type) where
  | ok (x : α) (a : Nat)
  | fell (f : Int)
  | refused (f : Int)
def readFun (bs : List UInt8) (a : Nat) : Res Fun :=
  match rNumL bs a with
  | .error f => .fell f
  | .ok (u1, k1) => match rNumL bs (a + k1) with
    | .error f => .fell f
    | .ok (u2, k2) => match rNumL bs (a + k1 + k2) with
      | .error f => .fell f
      | .ok (u3, k3) => match rBytesL bs (a + k1 + k2 + k3) with
        | .error f => .fell f
        | .ok (cs, a2) => if (decL cs).2 = 0 then .ok ⟨(u1 : Int), (u2 : Int), (u3 : Int), (decL cs).1⟩ a2 else .refused (decL cs).2
def readFuns (bs : List UInt8) : Nat → List Fun → Nat → Res (List Fun)
  | 0, fs, a => .ok fs a
  | n + 1, fs, a => match readFun bs a with
    | .fell f => .fell f
    | .refused f => .refused f
    | .ok f a2 => readFuns bs n (fs ++ [f]) a2
def wrapR (m : Int) (d : List UInt8) : Res (List Fun) → Res Prg
  | .fell f => .fell f
  | .refused f => .refused f
  | .ok fs a2 => .ok ⟨m, d, fs⟩ a2
def readPrg (bs : List UInt8) : Res Prg :=
  match rNumL bs 0 with
  | .error f => .fell f
  | .ok (t, k) => if t = 2 then (match rNumL bs (0 + k) with
    | .error f => .fell f
    | .ok (m, k2) => match rBytesL bs (0 + k + k2) with
      | .error f => .fell f
      | .ok (d, a) => match rNumL bs a with
        | .error f => .fell f
        | .ok (n, k3) => if 64 < n then .fell 121 else wrapR (m : Int) d (readFuns bs n [] (a + k3))) else .fell 52
def noPrg : Prg := ⟨0, [], []⟩
def decP (bs : List UInt8) : Prg × Int :=
  if 1048576 < bs.length then (noPrg, 2) else match readPrg bs with
  | .fell f => (noPrg, f)
  | .refused f => (noPrg, f)
  | .ok p a => if a = bs.length then (if checkL p = 0 then (p, 0) else (noPrg, checkL p)) else (noPrg, 13)
theorem rBytes_len {bs ys : List UInt8} {a a2 : Nat} (h : rBytesL bs a = .ok (ys, a2)) : ys.length ≤ bs.length ∧ a < a2 ∧ a2 ≤ bs.length := by
  unfold rBytesL at h
  split at h
  · cases h
  · rename_i n k hn
    have := rNum_lt hn
    split at h
    · cases h
    · injection h with h
      injection h with h1 h2
      subst h1 h2
      rw [List.length_take, List.length_drop]
      omega
theorem rBytes_err {bs : List UInt8} {a : Nat} {f : Int} (h : rBytesL bs a = .error f) : f ≠ 0 := by
  unfold rBytesL at h
  split at h
  · rename_i hn; injection h with h; subst h; exact rNumL_err hn
  · split at h
    · injection h with h; omega
    · cases h
/-- Code in unlike blocks. -/
def ApartF (fs : List FunM) : Prop := ∀ (i j : Nat) (f g : FunM), fs[i]? = some f → fs[j]? = some g → i ≠ j → ∀ b, f.A.map (·.block) = some b → g.A.map (·.block) ≠ some b
theorem ApartF.nil : ApartF [] := fun i j f g h => by cases h
theorem ApartF.push {fs : List FunM} {x : FunM} (n : Nat) (h : ApartF fs) (hlt : ∀ f ∈ fs, ∀ b, f.A.map (·.block) = some b → b < n) (hx : ∀ b, x.A.map (·.block) = some b → n ≤ b) : ApartF (fs ++ [x]) := by
  intro i j f g hi hj hij b hb1 hb2
  have key : ∀ (k : Nat) (y : FunM), (fs ++ [x])[k]? = some y → fs[k]? = some y ∨ (k = fs.length ∧ y = x) := by
    intro k y hk
    by_cases h1 : k < fs.length
    · rw [List.getElem?_append_left h1] at hk; exact .inl hk
    · rw [List.getElem?_append_right (by omega)] at hk
      obtain h2 | h2 : k - fs.length = 0 ∨ 0 < k - fs.length := by omega
      · rw [h2] at hk
        injection hk with hk
        exact .inr ⟨by omega, hk.symm⟩
      · rw [List.getElem?_eq_none (by rw [List.length_singleton]; exact h2)] at hk
        cases hk
  rcases key i f hi with h1 | ⟨h1, rfl⟩
  · rcases key j g hj with h2 | ⟨h2, rfl⟩
    · exact h i j f g h1 h2 hij b hb1 hb2
    · have := hlt f (List.mem_of_getElem? h1) b hb1
      have := hx b hb2
      omega
  · rcases key j g hj with h2 | ⟨h2, rfl⟩
    · have := hlt g (List.mem_of_getElem? h2) b hb2
      have := hx b hb1
      omega
    · omega
/-- A program whose lists are the call's own. -/
structure PrgOwn (w : World) (base : Nat) (p : PrgM) : Prop where
  data : OwnB w base p.AD p.data.length p.cD p.data
  funs : Own w base 43 4 p.AF p.fs.length p.cF (p.fs.flatMap funCells)
  code : ∀ f ∈ p.fs, Own w base 45 2 f.A f.code.length f.c (f.code.flatMap insCells)
  ok : ∀ f ∈ p.fs, (∀ i ∈ f.code, InsOk i) ∧ f.code.length ≤ 4096 ∧ 0 ≤ f.args ∧ f.args ≤ 9223372036854775807 ∧ 0 ≤ f.locals ∧ f.locals ≤ 9223372036854775807 ∧ 0 ≤ f.results ∧ f.results ≤ 9223372036854775807
  m1 : 0 ≤ p.mem
  m2 : p.mem ≤ 9223372036854775807
  dlen : p.data.length ≤ 140737488351232
  flen : p.fs.length ≤ 64
  apart : ApartF p.fs
theorem PrgOwn.only {S : Nat → Prop} {w w' : World} {base : Nat} {p : PrgM} (h : PrgOwn w base p) (ho : Only S w w') (hS : ∀ b, base ≤ b → b < w.heap.size → ¬ S b) : PrgOwn w' base p :=
  ⟨Own.only h.data ho fun b o e => hS b (Own.lt h.data b o e).1 (Own.lt h.data b o e).2.1, Own.only h.funs ho fun b o e => hS b (Own.lt h.funs b o e).1 (Own.lt h.funs b o e).2.1,
    fun f hf => Own.only (h.code f hf) ho fun b o e => hS b (Own.lt (h.code f hf) b o e).1 (Own.lt (h.code f hf) b o e).2.1, h.ok, h.m1, h.m2, h.dlen, h.flen, h.apart⟩
theorem PrgOwn.below {w w' : World} {base : Nat} {p : PrgM} (h : PrgOwn w base p) (hb : Below w.heap.size w w') : PrgOwn w' base p := h.only (S := fun _ => False) (Only.of_fresh hb) fun _ _ _ h => h
theorem PrgOwn.mono {w : World} {base base' : Nat} {p : PrgM} (h : PrgOwn w base p) (hb : base' ≤ base) : PrgOwn w base' p :=
  ⟨h.data.mono hb, h.funs.mono hb, fun f hf => (h.code f hf).mono hb, h.ok, h.m1, h.m2, h.dlen, h.flen, h.apart⟩
theorem own_nil {w : World} {base size n c : Nat} {e : TypeId} {A : Option Addr} {vs : List Value} (h : Own w base e size A n c vs) (hA : A = none) : n = 0 ∧ c = 0 := by
  rcases h.2 with ⟨hv, hn⟩ | ⟨g, cap, cur, hv, _⟩
  · injection hv with _ h2 h3
    exact ⟨h2, h3⟩
  · injection hv with h1; rw [hA] at h1; cases h1
theorem PrgOwn.at_ {w : World} {base : Nat} {p : PrgM} (h : PrgOwn w base p) : PrgAt w p :=
  ⟨Sl.of_own h.data, h.dlen, RV.of_own h.funs, fun e => own_nil h.funs e, by have := h.flen; omega, fun f hf => by
    obtain ⟨h1, h2, h3, h4, h5, h6, h7, h8⟩ := h.ok f hf
    exact ⟨RV.of_own (h.code f hf), h1, fun e => own_nil (h.code f hf) e, by omega, by omega, h4, by omega, h6, by omega, h8⟩, by have := h.m1; omega, h.m2⟩
end Go.Proofs.Ytcmpmhlcfalbhaa
