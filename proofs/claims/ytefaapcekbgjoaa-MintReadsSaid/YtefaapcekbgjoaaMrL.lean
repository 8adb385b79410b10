/- A script of calls, Reads within Reads: plain. -/
import Derived.Test.YtefaapcekbgjoaaRdK
namespace Go.Proofs.Ytefaapcekbgjoaa
open Go.RowKit

structure PCall where
  kind : Int
  n : Int
  out : Int
  b : List UInt8
structure PGot where
  kind : Int
  n : Int
  b : List UInt8
/-- Where a script is: its place, the readers within one another (the outermost first), what was told, what inner Reads answered, how many readers there were. -/
structure PS where
  at_ : Nat
  rs : List (List UInt8 × Nat)
  told : List PGot
  ret : List Int
  many : Nat
inductive POut where
  | ok (st : PS)
  | thrown (j : Nat) (f : Int) (st : PS)
/-- One call of a Reader: nothing; its fault; what it tells and where the Reader is then. -/
def callR (c : PCall) (bs : List UInt8) (a : Nat) : Option (Except Int (PGot × Nat)) :=
  if c.kind = 1 then some ((rNumL bs a).map fun x => (⟨1, (x.1 : Int), []⟩, a + x.2)) else
  if c.kind = 2 then some ((numberL bs a).map fun x => (⟨2, unfoldN x.1, []⟩, a + x.2)) else
  if c.kind = 3 then some ((rBoolL bs a).map fun x => (⟨3, if x then 1 else 0, []⟩, a + 1)) else
  if c.kind = 4 ∨ c.kind = 5 then some ((rBytesL bs a).map fun x => (⟨c.kind, 0, x.1⟩, x.2)) else
  if c.kind = 6 then some ((rRawL bs a c.n).map fun x => (⟨6, 0, x⟩, a + x.length)) else
  if c.kind = 7 then some ((rMostL bs a c.n).map fun x => (⟨7, (x.1 : Int), []⟩, a + x.2)) else
  if c.kind = 8 then some (.ok (⟨8, ((bs.length - a : Nat) : Int), []⟩, a)) else
  if c.kind = 9 then some (if c.n = 0 then .ok (⟨9, 0, []⟩, a) else .error c.n) else none
def roundN (out : Int) (d : Nat) : Nat := (out.emod (d : Int)).toNat
def PS.next (s : PS) : PS := ⟨s.at_ + 1, s.rs, s.told, s.ret, s.many⟩
def PS.push (s : PS) (b : List UInt8) : PS := ⟨s.at_, s.rs ++ [(b, 0)], s.told, s.ret, s.many + 1⟩
def PS.pop (s : PS) (d : Nat) (e : Int) : PS := ⟨s.at_, s.rs.take d, s.told, s.ret ++ [e], s.many⟩
def PS.tell (s : PS) (j a : Nat) (g : PGot) : PS := ⟨s.at_, s.rs.set j ((s.rs.getD j ([], 0)).1, a), s.told ++ [g], s.ret, s.many⟩
def PS.jOf (s : PS) (c : PCall) : Nat := s.rs.length - 1 - roundN c.out s.rs.length
def PS.callAt (s : PS) (c : PCall) : Option (Except Int (PGot × Nat)) := callR c (s.rs.getD (s.jOf c) ([], 0)).1 (s.rs.getD (s.jOf c) ([], 0)).2
def PS.tail (s : PS) (d : Nat) : Int := if (s.rs.getD d ([], 0)).2 < (s.rs.getD d ([], 0)).1.length then 13 else 0
inductive Runs (L : List PCall) : PS → Int → POut → Prop
  | stop {st : PS} {k : Int} : (k ≤ 0 ∨ L.length ≤ st.at_ ∨ 400 ≤ st.at_) → Runs L st k (.ok st)
  | skip {st : PS} {k : Int} {c : PCall} {o : POut} : 0 < k → st.at_ < 400 → L[st.at_]? = some c → c.kind = 10 → 20 ≤ st.rs.length → Runs L st.next (k - 1) o → Runs L st k o
  | void {st : PS} {k : Int} {c : PCall} {o : POut} : 0 < k → st.at_ < 400 → L[st.at_]? = some c → c.kind ≠ 10 → st.callAt c = none → Runs L st.next (k - 1) o → Runs L st k o
  | told {st : PS} {k : Int} {c : PCall} {g : PGot} {a : Nat} {o : POut} : 0 < k → st.at_ < 400 → L[st.at_]? = some c → c.kind ≠ 10 → st.callAt c = some (.ok (g, a)) → Runs L (st.next.tell (st.jOf c) a g) (k - 1) o → Runs L st k o
  | fell {st : PS} {k : Int} {c : PCall} {f : Int} : 0 < k → st.at_ < 400 → L[st.at_]? = some c → c.kind ≠ 10 → st.callAt c = some (.error f) → Runs L st k (.thrown (st.jOf c) f st.next)
  | inOk {st s2 : PS} {k : Int} {c : PCall} {o : POut} : 0 < k → st.at_ < 400 → L[st.at_]? = some c → c.kind = 10 → st.rs.length < 20 → Runs L (st.next.push c.b) c.n (.ok s2) → Runs L (s2.pop st.rs.length (s2.tail st.rs.length)) (k - 1) o → Runs L st k o
  | inOwn {st s2 : PS} {k : Int} {c : PCall} {f : Int} {o : POut} : 0 < k → st.at_ < 400 → L[st.at_]? = some c → c.kind = 10 → st.rs.length < 20 → Runs L (st.next.push c.b) c.n (.thrown st.rs.length f s2) → Runs L (s2.pop st.rs.length f) (k - 1) o → Runs L st k o
  | inFar {st s2 : PS} {k : Int} {c : PCall} {j : Nat} {f : Int} : 0 < k → st.at_ < 400 → L[st.at_]? = some c → c.kind = 10 → st.rs.length < 20 → Runs L (st.next.push c.b) c.n (.thrown j f s2) → j < st.rs.length → Runs L st k (.thrown j f s2)
theorem Runs.det {L : List PCall} {st : PS} {k : Int} {o : POut} (h : Runs L st k o) : ∀ {o' : POut}, Runs L st k o' → o = o' := by
  have lt : ∀ {n : Nat} {c : PCall}, L[n]? = some c → n < L.length := fun h => (List.getElem?_eq_some_iff.1 h).1
  induction h with
  | stop h1 =>
    intro o' h'
    cases h' with
    | stop _ => rfl
    | skip a b c' _ _ _ => have := lt c'; omega
    | void a b c' _ _ _ => have := lt c'; omega
    | told a b c' _ _ _ => have := lt c'; omega
    | fell a b c' _ _ => have := lt c'; omega
    | inOk a b c' _ _ _ _ => have := lt c'; omega
    | inOwn a b c' _ _ _ _ => have := lt c'; omega
    | inFar a b c' _ _ _ _ => have := lt c'; omega
  | skip a b c1 d e _ ih =>
    intro o' h'
    cases h' with
    | stop h1 => have := lt c1; omega
    | skip a' b' c' d' e' r' => exact ih r'
    | void a' b' c' d' e' r' => rw [c1] at c'; injection c' with c'; subst c'; exact absurd d d'
    | told a' b' c' d' e' r' => rw [c1] at c'; injection c' with c'; subst c'; exact absurd d d'
    | fell a' b' c' d' e' => rw [c1] at c'; injection c' with c'; subst c'; exact absurd d d'
    | inOk a' b' c' d' e' _ _ => omega
    | inOwn a' b' c' d' e' _ _ => omega
    | inFar a' b' c' d' e' _ _ => omega
  | void a b c1 d e _ ih =>
    intro o' h'
    cases h' with
    | stop h1 => have := lt c1; omega
    | skip a' b' c' d' e' r' => rw [c1] at c'; injection c' with c'; subst c'; exact absurd d' d
    | void a' b' c' d' e' r' => exact ih r'
    | told a' b' c' d' e' r' => rw [c1] at c'; injection c' with c'; subst c'; rw [e] at e'; cases e'
    | fell a' b' c' d' e' => rw [c1] at c'; injection c' with c'; subst c'; rw [e] at e'; cases e'
    | inOk a' b' c' d' e' _ _ => rw [c1] at c'; injection c' with c'; subst c'; exact absurd d' d
    | inOwn a' b' c' d' e' _ _ => rw [c1] at c'; injection c' with c'; subst c'; exact absurd d' d
    | inFar a' b' c' d' e' _ _ => rw [c1] at c'; injection c' with c'; subst c'; exact absurd d' d
  | told a b c1 d e _ ih =>
    intro o' h'
    cases h' with
    | stop h1 => have := lt c1; omega
    | skip a' b' c' d' e' r' => rw [c1] at c'; injection c' with c'; subst c'; exact absurd d' d
    | void a' b' c' d' e' r' => rw [c1] at c'; injection c' with c'; subst c'; rw [e] at e'; cases e'
    | told a' b' c' d' e' r' =>
      rw [c1] at c'; injection c' with c'; subst c'
      rw [e] at e'
      injection e' with e'; injection e' with e'; injection e' with e1 e2
      subst e1 e2
      exact ih r'
    | fell a' b' c' d' e' => rw [c1] at c'; injection c' with c'; subst c'; rw [e] at e'; injection e' with e'; cases e'
    | inOk a' b' c' d' e' _ _ => rw [c1] at c'; injection c' with c'; subst c'; exact absurd d' d
    | inOwn a' b' c' d' e' _ _ => rw [c1] at c'; injection c' with c'; subst c'; exact absurd d' d
    | inFar a' b' c' d' e' _ _ => rw [c1] at c'; injection c' with c'; subst c'; exact absurd d' d
  | fell a b c1 d e =>
    intro o' h'
    cases h' with
    | stop h1 => have := lt c1; omega
    | skip a' b' c' d' e' r' => rw [c1] at c'; injection c' with c'; subst c'; exact absurd d' d
    | void a' b' c' d' e' r' => rw [c1] at c'; injection c' with c'; subst c'; rw [e] at e'; cases e'
    | told a' b' c' d' e' r' => rw [c1] at c'; injection c' with c'; subst c'; rw [e] at e'; injection e' with e'; cases e'
    | fell a' b' c' d' e' =>
      rw [c1] at c'; injection c' with c'; subst c'
      rw [e] at e'
      injection e' with e'; injection e' with e'
      subst e'
      rfl
    | inOk a' b' c' d' e' _ _ => rw [c1] at c'; injection c' with c'; subst c'; exact absurd d' d
    | inOwn a' b' c' d' e' _ _ => rw [c1] at c'; injection c' with c'; subst c'; exact absurd d' d
    | inFar a' b' c' d' e' _ _ => rw [c1] at c'; injection c' with c'; subst c'; exact absurd d' d
  | inOk a b c1 d e _ _ ih1 ih2 =>
    intro o' h'
    cases h' with
    | stop h1 => have := lt c1; omega
    | skip a' b' c' d' e' r' => omega
    | void a' b' c' d' e' r' => rw [c1] at c'; injection c' with c'; subst c'; exact absurd d d'
    | told a' b' c' d' e' r' => rw [c1] at c'; injection c' with c'; subst c'; exact absurd d d'
    | fell a' b' c' d' e' => rw [c1] at c'; injection c' with c'; subst c'; exact absurd d d'
    | inOk a' b' c' d' e' q r =>
      rw [c1] at c'; injection c' with c'; subst c'
      have := ih1 q
      injection this with this
      subst this
      exact ih2 r
    | inOwn a' b' c' d' e' q r => rw [c1] at c'; injection c' with c'; subst c'; have := ih1 q; cases this
    | inFar a' b' c' d' e' q r => rw [c1] at c'; injection c' with c'; subst c'; have := ih1 q; cases this
  | inOwn a b c1 d e _ _ ih1 ih2 =>
    intro o' h'
    cases h' with
    | stop h1 => have := lt c1; omega
    | skip a' b' c' d' e' r' => omega
    | void a' b' c' d' e' r' => rw [c1] at c'; injection c' with c'; subst c'; exact absurd d d'
    | told a' b' c' d' e' r' => rw [c1] at c'; injection c' with c'; subst c'; exact absurd d d'
    | fell a' b' c' d' e' => rw [c1] at c'; injection c' with c'; subst c'; exact absurd d d'
    | inOk a' b' c' d' e' q r => rw [c1] at c'; injection c' with c'; subst c'; have := ih1 q; cases this
    | inOwn a' b' c' d' e' q r =>
      rw [c1] at c'; injection c' with c'; subst c'
      have := ih1 q
      injection this with _ e1 e2
      subst e1 e2
      exact ih2 r
    | inFar a' b' c' d' e' q r =>
      rw [c1] at c'; injection c' with c'; subst c'
      have := ih1 q
      injection this with e0 _ _
      omega
  | inFar a b c1 d e _ hj ih =>
    intro o' h'
    cases h' with
    | stop h1 => have := lt c1; omega
    | skip a' b' c' d' e' r' => omega
    | void a' b' c' d' e' r' => rw [c1] at c'; injection c' with c'; subst c'; exact absurd d d'
    | told a' b' c' d' e' r' => rw [c1] at c'; injection c' with c'; subst c'; exact absurd d d'
    | fell a' b' c' d' e' => rw [c1] at c'; injection c' with c'; subst c'; exact absurd d d'
    | inOk a' b' c' d' e' q r => rw [c1] at c'; injection c' with c'; subst c'; have := ih q; cases this
    | inOwn a' b' c' d' e' q r =>
      rw [c1] at c'; injection c' with c'; subst c'
      have := ih q
      injection this with e0 _ _
      omega
    | inFar a' b' c' d' e' q r =>
      rw [c1] at c'; injection c' with c'; subst c'
      exact ih q
def POut.st : POut → PS
  | .ok s => s
  | .thrown _ _ s => s
/-- The bytes of the readers stay. -/
theorem Runs.keeps {L : List PCall} {st : PS} {k : Int} {o : POut} (h : Runs L st k o) : ∀ i, i < st.rs.length → (o.st.rs[i]?).map Prod.fst = (st.rs[i]?).map Prod.fst := by
  have tell : ∀ (s : PS) (j a : Nat) (g : PGot) (i : Nat), ((s.tell j a g).rs[i]?).map Prod.fst = (s.rs[i]?).map Prod.fst := fun s j a g i => by
    show ((s.rs.set j _)[i]?).map Prod.fst = _
    by_cases hj : i = j
    · subst hj
      by_cases hl : i < s.rs.length
      · rw [List.getElem?_set_self hl, List.getD_eq_getElem?_getD, List.getElem?_eq_getElem hl]; rfl
      · rw [List.getElem?_eq_none (by rw [List.length_set]; omega), List.getElem?_eq_none (by omega)]
    · rw [List.getElem?_set_ne (fun e => hj e.symm)]
  have pop : ∀ (s : PS) (d : Nat) (e : Int) (i : Nat), i < d → ((s.pop d e).rs[i]?).map Prod.fst = (s.rs[i]?).map Prod.fst := fun s d e i hi => by
    show ((s.rs.take d)[i]?).map Prod.fst = _
    rw [List.getElem?_take, if_pos hi]
  have push : ∀ (s : PS) (b : List UInt8) (i : Nat), i < s.rs.length → (((s.push b).rs)[i]?).map Prod.fst = (s.rs[i]?).map Prod.fst := fun s b i hi => by
    show ((s.rs ++ [(b, 0)])[i]?).map Prod.fst = _
    rw [List.getElem?_append_left hi]
  induction h with
  | stop _ => exact fun i _ => rfl
  | skip _ _ _ _ _ _ ih => exact ih
  | void _ _ _ _ _ _ ih => exact ih
  | @told st k c g a o _ _ _ _ _ _ ih =>
    intro i hi
    rw [ih i (by show i < (st.rs.set _ _).length; rw [List.length_set]; exact hi), tell]
    rfl
  | fell _ _ _ _ _ => exact fun i _ => rfl
  | @inOk st s2 k c o _ _ _ _ _ _ _ ih1 ih2 =>
    intro i hi
    have h1 := ih1 i (by show i < (st.rs ++ [_]).length; rw [List.length_append]; omega)
    have hl : i < (s2.rs).length := by
      refine Nat.lt_of_not_le fun hn => ?_
      change (s2.rs[i]?).map Prod.fst = _ at h1
      rw [List.getElem?_eq_none hn, push st.next c.b i hi, show st.next.rs[i]? = st.rs[i]? from rfl, List.getElem?_eq_getElem hi] at h1
      cases h1
    rw [ih2 i (by show i < (s2.rs.take _).length; rw [List.length_take]; omega), pop _ _ _ _ hi]
    exact h1.trans (push st.next c.b i hi)
  | @inOwn st s2 k c f o _ _ _ _ _ _ _ ih1 ih2 =>
    intro i hi
    have h1 := ih1 i (by show i < (st.rs ++ [_]).length; rw [List.length_append]; omega)
    have hl : i < (s2.rs).length := by
      refine Nat.lt_of_not_le fun hn => ?_
      change (s2.rs[i]?).map Prod.fst = _ at h1
      rw [List.getElem?_eq_none hn, push st.next c.b i hi, show st.next.rs[i]? = st.rs[i]? from rfl, List.getElem?_eq_getElem hi] at h1
      cases h1
    rw [ih2 i (by show i < (s2.rs.take _).length; rw [List.length_take]; omega), pop _ _ _ _ hi]
    exact h1.trans (push st.next c.b i hi)
  | @inFar st s2 k c j f _ _ _ _ _ _ _ ih =>
    intro i hi
    exact (ih i (by show i < (st.rs ++ [_]).length; rw [List.length_append]; omega)).trans (push st.next c.b i hi)
end Go.Proofs.Ytefaapcekbgjoaa
