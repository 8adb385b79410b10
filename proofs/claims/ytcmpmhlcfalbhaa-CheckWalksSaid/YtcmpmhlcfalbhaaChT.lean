/- What Run is to find, plain; and how its lists lie in memory while it finds them. -/
import Derived.Test.YtcmpmhlcfalbhaaWhQ
import Derived.Test.YtcmpmhlcfalbhaaSoleG
import Derived.Test.YtcmpmhlcfalbhaaLpW
import Derived.Test.YtcmpmhlcfalbhaaChHw
import Derived.Test.YtcmpmhlcfalbhaaChOw
import Derived.Test.YtcmpmhlcfalbhaaPrgC0
namespace Go.Proofs.Ytcmpmhlcfalbhaa
open Go.RowKit

/-! ### Places that come to themselves -/
section
variable {P : Prg} {f : Nat} {h : List Int}
theorem nxN_eq (H : HFin P f h) (hg : checkL P = 0) {v : Nat} (hr : Reach (nxF P f) 0 v) : nxN P f h v = nxF P f v := by
  obtain ⟨x, hx, h0⟩ := H.reach hg hr
  unfold nxN nxI nxF
  rw [List.getD_eq_getElem?_getD, hx, if_neg (by simp; omega)]
theorem nxN_reach (H : HFin P f h) (hg : checkL P = 0) {a v : Nat} (ha : Reach (nxF P f) 0 a) : Reach (nxN P f h) a v ↔ Reach (nxF P f) a v := by
  constructor
  · intro hr
    induction hr with
    | refl => exact .refl _
    | step h1 _ ih =>
      rw [nxN_eq H hg ha] at h1
      exact .step h1 (ih (ha.trans (.one h1)))
  · intro hr
    induction hr with
    | refl => exact .refl _
    | step h1 _ ih =>
      exact .step (by rw [nxN_eq H hg ha]; exact h1) (ih (ha.trans (.one h1)))
theorem loops_eq (H : HFin P f h) (hg : checkL P = 0) (n : Nat) : loopsL (nxN P f h) n = loopsL (nxF P f) n := by
  classical
  unfold loopsL
  congr 1
  refine List.filter_congr fun v _ => ?_
  rw [Bool.eq_iff_iff, decide_eq_true_iff, decide_eq_true_iff, nxN_reach H hg (.refl 0)]
  refine and_congr_right fun hr => ?_
  unfold Cyc
  rw [nxN_eq H hg hr]
  exact exists_congr fun u => and_congr_right fun hu => nxN_reach H hg (hr.trans (.one hu))
theorem loops_none (n : Nat) (nx : Nat → List Nat) (hn : ∀ v, Reach nx 0 v → v < n) : (loopsL nx n).length = 0 ↔ ∀ v, Reach nx 0 v → ¬ Cyc nx v := by
  classical
  unfold loopsL
  rw [List.length_map, List.length_eq_zero_iff, List.filter_eq_nil_iff]
  constructor
  · intro h v hr hc
    exact h v (List.mem_range.2 (hn v hr)) (decide_eq_true ⟨hr, hc⟩)
  · intro h v _ hd
    have := of_decide_eq_true hd
    exact h v this.1 this.2
end
/-! ### What Run finds -/
def zFacts : Value := .agg #[.slice none 0 0, .slice none 0 0, .slice none 0 0, .slice none 0 0, .int .i64 0, .int .i64 0]
structure Lead (P : Prg) : Prop where
  chk : checkL P = 0
  args : P.args 0 = 0
  results : P.results 0 = 1
/-- The fault that Run tells: its error, function, place. -/
def BadAt (P : Prg) (x : Int × Int × Int) : Prop :=
  (checkL P ≠ 0 ∧ x = (checkL P, 0, 0)) ∨ (checkL P = 0 ∧ (P.args 0 ≠ 0 ∨ P.results 0 ≠ 1) ∧ x = (139, 0, 0)) ∨ (Lead P ∧ firstP P P.fs 0 = some x) ∨
  (Lead P ∧ firstP P P.fs 0 = none ∧ ∃ (f n : Nat) (er : Int), f < P.fs.length ∧ (∀ g, g < f → ∃ h, HFin P g h) ∧ HRuns P f (h0L (P.len f)) (w0L (P.len f)) (.inr (er, n)) ∧ er ≠ 0 ∧ x = (er, (f : Int), (n : Int)))
structure FactsOk (P : Prg) (hs : List (List Int)) (tops : List Int) (lps : List (List Int)) (live : List Bool) (ce co : Int) : Prop where
  lead : Lead P
  good : Good P
  lh : hs.length = P.fs.length
  lt : tops.length = P.fs.length
  ll : lps.length = P.fs.length
  lv : live.length = P.fs.length
  fin : ∀ f, f < P.fs.length → HFin P f (hs.getD f [])
  top : ∀ f, f < P.fs.length → TopF P f (hs.getD f []) (tops.getD f 0)
  loops : ∀ f, f < P.fs.length → lps.getD f [] = loopsL (nxF P f) (P.len f)
  live : ∀ v : Nat, live[v]? = some true ↔ Reach (cg P hs) 0 v
  cells : CellsIs P hs tops ce
  cost : CostIs P hs co
/-! ### The lists in memory -/
structure RunM (w : World) (B : Nat) (hs lps : List (List Int)) (tops : List Int) (HR LR : List (LG × List Value)) (AH : Option Addr) (cH : Nat) (AT : Option Addr) (cT : Nat) (AL : Option Addr) (cL : Nat) : Prop where
  hh : HR.map (·.2) = hs.map (·.map iv)
  hl : LR.map (·.2) = lps.map (·.map iv)
  sh : SoleG w B 3 1 HR
  sl : SoleG w B 3 1 LR
  hlx : ∀ q ∈ HR, ∀ r ∈ LR, ∀ b, q.1.A.map (·.block) = some b → r.1.A.map (·.block) ≠ some b
  oh : Own w B 29 1 AH HR.length cH (hdrs HR)
  ol : Own w B 29 1 AL LR.length cL (hdrs LR)
  ot : OwnI w B AT tops.length cT tops
  ahl : ∀ b, AH.map (·.block) = some b → AL.map (·.block) ≠ some b
  thh : ∀ q ∈ HR, ∀ b, AT.map (·.block) = some b → q.1.A.map (·.block) ≠ some b
  thl : ∀ q ∈ LR, ∀ b, AT.map (·.block) = some b → q.1.A.map (·.block) ≠ some b
section
variable {w w' : World} {B : Nat} {hs lps : List (List Int)} {tops : List Int} {HR LR : List (LG × List Value)} {AH AT AL : Option Addr} {cH cT cL : Nat}
theorem RunM.start (w : World) (B : Nat) : RunM w B [] [] [] [] [] none 0 none 0 none 0 :=
  ⟨rfl, rfl, .nil _ _ _ _, .nil _ _ _ _, (fun q h => by cases h), Own.nil _ _ _ _, Own.nil _ _ _ _, Own.nil _ _ _ _, (fun b h => by cases h), (fun q h => by cases h), (fun q h => by cases h)⟩
theorem RunM.keep (h : RunM w B hs lps tops HR LR AH cH AT cT AL cL) {S : Nat → Prop} (ho : Only S w w') (h1 : ∀ q ∈ HR, ∀ b, q.1.A.map (·.block) = some b → ¬ S b) (h2 : ∀ q ∈ LR, ∀ b, q.1.A.map (·.block) = some b → ¬ S b)
    (h3 : ∀ b, AH.map (·.block) = some b → ¬ S b) (h4 : ∀ b, AL.map (·.block) = some b → ¬ S b) (h5 : ∀ b, AT.map (·.block) = some b → ¬ S b) : RunM w' B hs lps tops HR LR AH cH AT cT AL cL :=
  ⟨h.hh, h.hl, h.sh.only ho h1, h.sl.only ho h2, h.hlx, Own.only h.oh ho (fun b o e => h3 b (by rw [e]; rfl)), Own.only h.ol ho (fun b o e => h4 b (by rw [e]; rfl)), Own.only h.ot ho (fun b o e => h5 b (by rw [e]; rfl)), h.ahl, h.thh, h.thl⟩
theorem RunM.below (h : RunM w B hs lps tops HR LR AH cH AT cT AL cL) (hb : Below w.heap.size w w') : RunM w' B hs lps tops HR LR AH cH AT cT AL cL :=
  h.keep (S := fun _ => False) (Only.of_fresh hb) (fun _ _ _ _ h => h) (fun _ _ _ _ h => h) (fun _ _ h => h) (fun _ _ h => h) (fun _ _ h => h)
theorem own_blk_ne {w : World} {base size n c g : Nat} {e t : TypeId} {A : Option Addr} {vs : List Value} {cs : Array Value} (h : Own w base e size A n c vs) (hg : Blk w g t cs) (hne : e ≠ t) (b : Nat) (hb : A.map (·.block) = some b) : b ≠ g := by
  obtain ⟨h1, -, -⟩ := ownG_form h b hb
  exact Own.ne_blk h hg hne b 0 h1
/-- A store to a block that is no list. -/
theorem RunM.one (h : RunM w B hs lps tops HR LR AH cH AT cT AL cL) {g : Nat} {t : TypeId} {cs : Array Value} (hg : Blk w g t cs) (h1 : 3 ≠ t) (h2 : 29 ≠ t) (ho : Only (fun k => k = g) w w') : RunM w' B hs lps tops HR LR AH cH AT cT AL cL :=
  h.keep ho (fun q hq b e => own_blk_ne (h.sh.own q hq) hg h1 b e) (fun q hq b e => own_blk_ne (h.sl.own q hq) hg h1 b e) (fun b e => own_blk_ne h.oh hg h2 b e) (fun b e => own_blk_ne h.ol hg h2 b e) (fun b e => own_blk_ne h.ot hg h1 b e)
theorem hdrs_push (qs : List (LG × List Value)) (x : LG × List Value) : hdrs (qs ++ [x]) = hdrs qs ++ [x.1.val] := by unfold hdrs; rw [List.map_append]; rfl
/-- One row of heights more. -/
theorem RunM.pushH (h : RunM w B hs lps tops HR LR AH cH AT cT AL cL) {A A2 : Option Addr} {c c2 B2 : Nat} {xs : List Int} (hx : OwnI w B2 A xs.length c xs) (hB : B ≤ B2) (h1 : ∀ q ∈ HR, ∀ b, q.1.A.map (·.block) = some b → b < B2) (h2 : ∀ q ∈ LR, ∀ b, q.1.A.map (·.block) = some b → b < B2) (h5 : ∀ b, AT.map (·.block) = some b → b < B2)
    (ho : Own w' B 29 1 A2 (HR.length + 1) c2 (hdrs HR ++ [.slice A xs.length c])) (hg : w.grownBy w' (AH.map (·.block))) (hA : A2.map (·.block) = AH.map (·.block) ∨ A2.map (·.block) = some w.heap.size) :
    RunM w' B (hs ++ [xs]) lps tops (HR ++ [(⟨A, xs.length, c⟩, xs.map iv)]) LR A2 c2 AT cT AL cL := by
  have hO : Only (fun k => AH.map (·.block) = some k) w w' := Only.of_grown hg fun k e => e
  have hi : 29 ≠ 3 := by decide
  have n1 : ∀ q ∈ HR, ∀ b, q.1.A.map (·.block) = some b → ¬ AH.map (·.block) = some b := fun q hq b e e2 => ownG_ne h.oh (h.sh.own q hq) hi b e2 e
  have n2 : ∀ q ∈ LR, ∀ b, q.1.A.map (·.block) = some b → ¬ AH.map (·.block) = some b := fun q hq b e e2 => ownG_ne h.oh (h.sl.own q hq) hi b e2 e
  have n4 : ∀ b, AL.map (·.block) = some b → ¬ AH.map (·.block) = some b := fun b e e2 => h.ahl b e2 e
  have n5 : ∀ b, AT.map (·.block) = some b → ¬ AH.map (·.block) = some b := fun b e e2 => ownG_ne h.oh h.ot hi b e2 e
  have nx : ∀ b, A.map (·.block) = some b → ¬ AH.map (·.block) = some b := fun b e e2 => ownG_ne h.oh hx hi b e2 e
  have hx' : OwnI w' B2 A xs.length c xs := Own.only hx hO fun b o e => nx b (by rw [e]; rfl)
  refine ⟨by rw [List.map_append, List.map_append, h.hh]; rfl, h.hl, (h.sh.only hO n1).push hx' hB h1, h.sl.only hO n2, fun q hq r hr b e e2 => ?_, by rw [hdrs_push, List.length_append]; exact ho, Own.only h.ol hO (fun b o e => n4 b (by rw [e]; rfl)), Own.only h.ot hO (fun b o e => n5 b (by rw [e]; rfl)), fun b e e2 => ?_, fun q hq b e e2 => ?_, h.thl⟩
  · rcases List.mem_append.1 hq with hq | hq
    · exact h.hlx q hq r hr b e e2
    · rw [List.mem_singleton.1 hq] at e
      have := (Own.row hx b e).1
      have := h2 r hr b e2
      omega
  · rcases hA with hA | hA
    · exact h.ahl b (by rw [← hA]; exact e) e2
    · rw [e] at hA
      have hbw : b = w.heap.size := Option.some.inj hA
      have := (Own.row h.ol b e2).2
      omega
  · rcases List.mem_append.1 hq with hq | hq
    · exact h.thh q hq b e e2
    · rw [List.mem_singleton.1 hq] at e2
      have := (Own.row hx b e2).1
      have := h5 b e
      omega
/-- One row of places more. -/
theorem RunM.pushL (h : RunM w B hs lps tops HR LR AH cH AT cT AL cL) {A A2 : Option Addr} {c c2 B2 : Nat} {xs : List Int} (hx : OwnI w B2 A xs.length c xs) (hB : B ≤ B2) (h1 : ∀ q ∈ HR, ∀ b, q.1.A.map (·.block) = some b → b < B2) (h2 : ∀ q ∈ LR, ∀ b, q.1.A.map (·.block) = some b → b < B2) (h5 : ∀ b, AT.map (·.block) = some b → b < B2)
    (ho : Own w' B 29 1 A2 (LR.length + 1) c2 (hdrs LR ++ [.slice A xs.length c])) (hg : w.grownBy w' (AL.map (·.block))) (hA : A2.map (·.block) = AL.map (·.block) ∨ A2.map (·.block) = some w.heap.size) :
    RunM w' B hs (lps ++ [xs]) tops HR (LR ++ [(⟨A, xs.length, c⟩, xs.map iv)]) AH cH AT cT A2 c2 := by
  have hO : Only (fun k => AL.map (·.block) = some k) w w' := Only.of_grown hg fun k e => e
  have hi : 29 ≠ 3 := by decide
  have n1 : ∀ q ∈ HR, ∀ b, q.1.A.map (·.block) = some b → ¬ AL.map (·.block) = some b := fun q hq b e e2 => ownG_ne h.ol (h.sh.own q hq) hi b e2 e
  have n2 : ∀ q ∈ LR, ∀ b, q.1.A.map (·.block) = some b → ¬ AL.map (·.block) = some b := fun q hq b e e2 => ownG_ne h.ol (h.sl.own q hq) hi b e2 e
  have n4 : ∀ b, AH.map (·.block) = some b → ¬ AL.map (·.block) = some b := fun b e e2 => h.ahl b e e2
  have n5 : ∀ b, AT.map (·.block) = some b → ¬ AL.map (·.block) = some b := fun b e e2 => ownG_ne h.ol h.ot hi b e2 e
  have nx : ∀ b, A.map (·.block) = some b → ¬ AL.map (·.block) = some b := fun b e e2 => ownG_ne h.ol hx hi b e2 e
  have hx' : OwnI w' B2 A xs.length c xs := Own.only hx hO fun b o e => nx b (by rw [e]; rfl)
  refine ⟨h.hh, by rw [List.map_append, List.map_append, h.hl]; rfl, h.sh.only hO n1, (h.sl.only hO n2).push hx' hB h2, fun q hq r hr b e e2 => ?_, Own.only h.oh hO (fun b o e => n4 b (by rw [e]; rfl)), by rw [hdrs_push, List.length_append]; exact ho, Own.only h.ot hO (fun b o e => n5 b (by rw [e]; rfl)), fun b e e2 => ?_, h.thh, fun q hq b e e2 => ?_⟩
  · rcases List.mem_append.1 hr with hr | hr
    · exact h.hlx q hq r hr b e e2
    · rw [List.mem_singleton.1 hr] at e2
      have := (Own.row hx b e2).1
      have := h1 q hq b e
      omega
  · rcases hA with hA | hA
    · exact h.ahl b e (by rw [← hA]; exact e2)
    · rw [e2] at hA
      have hbw : b = w.heap.size := Option.some.inj hA
      have := (Own.row h.oh b e).2
      omega
  · rcases List.mem_append.1 hq with hq | hq
    · exact h.thl q hq b e e2
    · rw [List.mem_singleton.1 hq] at e2
      have := (Own.row hx b e2).1
      have := h5 b e
      omega
/-- One top more. -/
theorem RunM.pushT (h : RunM w B hs lps tops HR LR AH cH AT cT AL cL) {A2 : Option Addr} {c2 : Nat} {x : Int}
    (ho : Own w' B 3 1 A2 (tops.length + 1) c2 (tops.map iv ++ [.int .i64 x])) (hg : w.grownBy w' (AT.map (·.block))) (hA : A2.map (·.block) = AT.map (·.block) ∨ A2.map (·.block) = some w.heap.size) :
    RunM w' B hs lps (tops ++ [x]) HR LR AH cH A2 c2 AL cL := by
  have hO : Only (fun k => AT.map (·.block) = some k) w w' := Only.of_grown hg fun k e => e
  have hi : 29 ≠ 3 := by decide
  have n1 : ∀ q ∈ HR, ∀ b, q.1.A.map (·.block) = some b → ¬ AT.map (·.block) = some b := fun q hq b e e2 => h.thh q hq b e2 e
  have n2 : ∀ q ∈ LR, ∀ b, q.1.A.map (·.block) = some b → ¬ AT.map (·.block) = some b := fun q hq b e e2 => h.thl q hq b e2 e
  have n3 : ∀ b, AH.map (·.block) = some b → ¬ AT.map (·.block) = some b := fun b e e2 => ownG_ne h.oh h.ot hi b e e2
  have n4 : ∀ b, AL.map (·.block) = some b → ¬ AT.map (·.block) = some b := fun b e e2 => ownG_ne h.ol h.ot hi b e e2
  refine ⟨h.hh, h.hl, h.sh.only hO n1, h.sl.only hO n2, h.hlx, Own.only h.oh hO (fun b o e => n3 b (by rw [e]; rfl)), Own.only h.ol hO (fun b o e => n4 b (by rw [e]; rfl)), OwnI.push ho, h.ahl, fun q hq b e e2 => ?_, fun q hq b e e2 => ?_⟩
  · rcases hA with hA | hA
    · exact h.thh q hq b (by rw [← hA]; exact e) e2
    · rw [e] at hA
      have hbw : b = w.heap.size := Option.some.inj hA
      have := (h.sh.lt q hq b e2).2
      omega
  · rcases hA with hA | hA
    · exact h.thl q hq b (by rw [← hA]; exact e) e2
    · rw [e] at hA
      have hbw : b = w.heap.size := Option.some.inj hA
      have := (h.sl.lt q hq b e2).2
      omega
/-- All blocks of the lists lie below the heap's end. -/
theorem RunM.lt (h : RunM w B hs lps tops HR LR AH cH AT cT AL cL) : (∀ q ∈ HR, ∀ b, q.1.A.map (·.block) = some b → b < w.heap.size) ∧ (∀ q ∈ LR, ∀ b, q.1.A.map (·.block) = some b → b < w.heap.size) ∧ ∀ b, AT.map (·.block) = some b → b < w.heap.size :=
  ⟨fun q hq b e => (h.sh.lt q hq b e).2, fun q hq b e => (h.sl.lt q hq b e).2, fun b e => (Own.row h.ot b e).2⟩
theorem RunM.lens (h : RunM w B hs lps tops HR LR AH cH AT cT AL cL) : HR.length = hs.length ∧ LR.length = lps.length := by
  have h1 := congrArg List.length h.hh
  have h2 := congrArg List.length h.hl
  simp only [List.length_map] at h1 h2
  exact ⟨h1, h2⟩
end
end Go.Proofs.Ytcmpmhlcfalbhaa
