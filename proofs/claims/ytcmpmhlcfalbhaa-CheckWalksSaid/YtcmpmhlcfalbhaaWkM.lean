/- The law CheckWalks, walked (printed by gen_wkm.py). -/
import Derived.Test.YtcmpmhlcfalbhaaWkW
import Derived.Test.YtcmpmhlcfalbhaaLwPa
import Derived.Deep.CutRange
import Derived.WalkSpells
namespace Go.Proofs.Ytcmpmhlcfalbhaa
open Go.RowKit

theorem badW_ne {P : Prg} {x : Int × Int × Int} (h : BadAt P x) : x.1 ≠ 0 := by
  rcases h with ⟨h1, e⟩ | ⟨-, -, e⟩ | ⟨-, h1⟩ | ⟨-, -, f, n, er, -, -, -, he, e⟩
  · rw [e]; exact h1
  · rw [e]; decide
  · exact firstP_ne h1
  · rw [e]; exact he
/-- The lists of places of the calls under way: own, in unlike blocks. -/
structure BeenM (w : World) (base : Nat) (l : List FrM) : Prop where
  own : ∀ y ∈ l, OwnL w base (some ⟨y.g, 0, none⟩) y.x.been.length y.x.been.length y.x.been
  apart : ∀ (i j : Nat) (y z : FrM), l[i]? = some y → l[j]? = some z → i ≠ j → y.g ≠ z.g
/-- Calls under way, the top last. -/
structure WkOk (P : Prg) (hs : List (List Int)) (co : Int) (d : Nat) (l : List FrM) (y : FrM) (r : List FrM) : Prop where
  rev : l = r.reverse ++ [y]
  top : TopOk P hs y.x
  und : UndAll P hs y.x.f (r.map (·.x))
  cost : 0 ≤ co → (d : Int) + (pcL P y.x.f (kcL P) y.x.n + sumK P (r.map (·.x))) ≤ co
theorem sumM_eq (P : Prg) : ∀ r : List FrM, sumM P r.reverse = sumC P (r.map (·.x))
  | [] => rfl
  | y :: r => by
    rw [List.reverse_cons, sumM_push, sumM_eq P r]
    show _ = 1 + P.locals y.x.f + y.x.h + sumC P (r.map (·.x))
    omega
section
variable {P : Prg} {hs : List (List Int)} {tops : List Int} {lps : List (List Int)} {live : List Bool} {ce co : Int}
theorem und_bnd (F : FactsOk P hs tops lps live ce co) : ∀ (r : List Fr) (z : Nat), UndAll P hs z r → ∀ y ∈ r, y.f < P.fs.length ∧ -16 ≤ y.h ∧ y.h ≤ 256
  | [], _, _, y, h => by cases h
  | x :: r, z, ⟨h, hr⟩, y, hy => by
    rcases List.mem_cons.1 hy with rfl | hy
    · obtain ⟨m, i, q, hi, h17, ha, hq, h0, hn, hh⟩ := h.call
      have hlt := F.flt h.live
      have h1 := ((F.fin y.f hlt).bnd m q hq).2
      have hT : TopOk P hs ⟨y.f, m, q, List.replicate (P.len y.f) false⟩ := ⟨h.live, hq, h0, ⟨by simp, fun b hb => by rw [List.getElem?_replicate] at hb; split at hb <;> cases hb⟩⟩
      obtain ⟨z', hz', -, -, -, -, ht, -, -, -⟩ := hT.callee F hi h17
      obtain rfl : z' = z := by omega
      have h2 := (ins_facts F.lead.chk hi).t0
      have h3 := (ins_facts F.lead.chk hi).t1
      dsimp only at ht
      rw [ht] at h2 h3
      dsimp only at h2 h3
      exact ⟨hlt, by omega, by omega⟩
    · exact und_bnd F r x.f hr y hy
theorem locals_bnd (h : checkL P = 0) {f : Nat} (hf : f < P.fs.length) : 0 ≤ P.locals f ∧ P.locals f ≤ 64 := by
  have hg := good_fn h (List.getElem_mem hf)
  rw [Prg.locals_of (List.getElem?_eq_getElem hf)]
  have := hg.a0; have := hg.l0; have := hg.l1
  exact ⟨by omega, by omega⟩
theorem WkOk.bnds (F : FactsOk P hs tops lps live ce co) {d : Nat} {l r : List FrM} {y : FrM} (H : WkOk P hs co d l y r) : ∀ z ∈ l, z.x.f < P.fs.length ∧ -16 ≤ z.x.h ∧ z.x.h ≤ 256 ∧ 0 ≤ P.locals z.x.f ∧ P.locals z.x.f ≤ 64 := by
  intro z hz
  have key : z.x.f < P.fs.length ∧ -16 ≤ z.x.h ∧ z.x.h ≤ 256 := by
    rw [H.rev] at hz
    rcases List.mem_append.1 hz with hz | hz
    · exact und_bnd F _ _ H.und z.x (List.mem_map.2 ⟨z, List.mem_reverse.1 hz, rfl⟩)
    · rw [List.mem_singleton.1 hz]
      have hlt := F.flt H.top.live
      have h1 := ((F.fin _ hlt).bnd y.x.n y.x.h H.top.at_).2
      have h2 := H.top.pos
      exact ⟨hlt, by omega, h1⟩
  obtain ⟨h1, h2⟩ := locals_bnd F.lead.chk key.1
  exact ⟨key.1, key.2.1, key.2.2, h1, h2⟩
theorem WkOk.cells (F : FactsOk P hs tops lps live ce co) {d : Nat} {l r : List FrM} {y : FrM} (H : WkOk P hs co d l y r) (hce : 0 ≤ ce) : sumM P l ≤ ce := by
  rcases F.cells with ⟨-, e⟩ | ⟨-, c, hc, e⟩
  · omega
  · rw [H.rev, sumM_push, sumM_eq, e]
    have h1 := top_cells F hc H.top
    have h2 := und_cells F hc _ _ H.und
    omega
theorem WkOk.steps {d : Nat} {l r : List FrM} {y : FrM} (H : WkOk P hs co d l y r) (hco : 0 ≤ co) : (d : Int) < co := by
  have h1 := H.cost hco
  have h2 := (pc_pos (P := P) (f := y.x.f) (n := y.x.n)).1
  have h3 := sumK_pos (P := P) (r.map (·.x))
  omega
theorem WkOk.strt (F : FactsOk P hs tops lps live ce co) (hco : 0 ≤ co) : Strt P hs ∧ co < mostC := by
  have hm : mostC = 1099511627777 := rfl
  rcases F.cost with ⟨-, e⟩ | ⟨h1, h2, e⟩
  · omega
  · refine ⟨strt_of F h1 h2, ?_⟩
    by_cases h : kcL P 0 ≤ 1099511627776
    · rw [if_pos h] at e; omega
    · rw [if_neg h] at e; omega
theorem WkOk.first (F : FactsOk P hs tops lps live ce co) (g : Nat) : WkOk P hs co 0 [⟨⟨0, 0, 0, List.replicate (P.len 0) false⟩, g⟩] ⟨⟨0, 0, 0, List.replicate (P.len 0) false⟩, g⟩ [] := by
  refine ⟨rfl, first_ok F, rfl, fun hco => ?_⟩
  obtain ⟨S, -⟩ := WkOk.strt F hco
  rcases F.cost with ⟨-, e⟩ | ⟨-, -, e⟩
  · omega
  · have h1 := kc_eq S F.good (.refl 0)
    by_cases h : kcL P 0 ≤ 1099511627776
    · rw [if_pos h] at e
      show ((0 : Nat) : Int) + (pcL P 0 (kcL P) 0 + 0) ≤ co
      omega
    · rw [if_neg h] at e; omega
theorem WkOk.pc_lt (F : FactsOk P hs tops lps live ce co) {d : Nat} {l r : List FrM} {y : FrM} (H : WkOk P hs co d l y r) (hco : 0 ≤ co) : pcL P y.x.f (kcL P) y.x.n < mostC := by
  have h1 := H.cost hco
  have h3 := sumK_pos (P := P) (r.map (·.x))
  have h4 := (WkOk.strt F hco).2
  omega
/-- On to another place of the function. -/
theorem WkOk.go (F : FactsOk P hs tops lps live ce co) {d : Nat} {l r : List FrM} {y : FrM} {i : Ins} (H : WkOk P hs co d l y r) (hi : P.ins y.x.f y.x.n = some i) {v : Nat} (hv : v ∈ nxF P y.x.f y.x.n) :
    WkOk P hs co (d + 1) (r.reverse ++ [⟨⟨y.x.f, v, y.x.h - (takesL P y.x.f y.x.n).1 + (takesL P y.x.f y.x.n).2, y.x.been.set y.x.n true⟩, y.g⟩]) ⟨⟨y.x.f, v, y.x.h - (takesL P y.x.f y.x.n).1 + (takesL P y.x.f y.x.n).2, y.x.been.set y.x.n true⟩, y.g⟩ r := by
  refine ⟨rfl, H.top.go F hi hv, H.und, fun hco => ?_⟩
  have h1 := cost_go F (WkOk.strt F hco).1 H.top hv (H.pc_lt F hco)
  have h2 := H.cost hco
  dsimp only
  omega
/-- Into a call. -/
theorem WkOk.call (F : FactsOk P hs tops lps live ce co) {d : Nat} {l r : List FrM} {y : FrM} {i : Ins} (H : WkOk P hs co d l y r) (hi : P.ins y.x.f y.x.n = some i) (h17 : i.op = 17) (gB : Nat) {z : Nat} (hz : i.a = z) :
    WkOk P hs co (d + 1) (r.reverse ++ [⟨⟨y.x.f, y.x.n + 1, y.x.h - (takesL P y.x.f y.x.n).1, y.x.been.set y.x.n true⟩, y.g⟩] ++ [⟨⟨z, 0, 0, List.replicate (P.len z) false⟩, gB⟩]) ⟨⟨z, 0, 0, List.replicate (P.len z) false⟩, gB⟩ (⟨⟨y.x.f, y.x.n + 1, y.x.h - (takesL P y.x.f y.x.n).1, y.x.been.set y.x.n true⟩, y.g⟩ :: r) := by
  obtain ⟨z', hz', -, hr, hT, hU, ht, -, -, hv⟩ := H.top.callee F hi h17
  obtain rfl : z' = z := by omega
  refine ⟨by rw [List.reverse_cons], hT, ⟨hU, H.und⟩, fun hco => ?_⟩
  have h1 := cost_call F (WkOk.strt F hco).1 H.top hi h17 hz hr hv (H.pc_lt F hco)
  have h2 := H.cost hco
  show ((d + 1 : Nat) : Int) + (pcL P z' (kcL P) 0 + (pcL P y.x.f (kcL P) (y.x.n + 1) + sumK P (r.map (·.x)))) ≤ co
  omega
/-- Out of one. -/
theorem WkOk.ret (F : FactsOk P hs tops lps live ce co) {d : Nat} {l r : List FrM} {y q : FrM} {i : Ins} (H : WkOk P hs co d l y (q :: r)) (hi : P.ins y.x.f y.x.n = some i) (h18 : i.op = 18) :
    WkOk P hs co (d + 1) (r.reverse ++ [⟨⟨q.x.f, q.x.n, q.x.h + (takesL P y.x.f y.x.n).1, q.x.been⟩, q.g⟩]) ⟨⟨q.x.f, q.x.n, q.x.h + (takesL P y.x.f y.x.n).1, q.x.been⟩, q.g⟩ r := by
  obtain ⟨hU, hR⟩ := H.und
  have ht := ((ins_facts F.lead.chk hi).ret h18).1
  refine ⟨rfl, ?_, hR, fun hco => ?_⟩
  · have h1 := hU.back F
    rw [ht]
    exact h1
  · have h2 := H.cost hco
    have h3 := (pc_pos (P := P) (f := y.x.f) (n := y.x.n)).1
    change (d : Int) + (pcL P y.x.f (kcL P) y.x.n + (pcL P q.x.f (kcL P) q.x.n + sumK P (r.map (·.x)))) ≤ co at h2
    show ((d + 1 : Nat) : Int) + (pcL P q.x.f (kcL P) q.x.n + sumK P (r.map (·.x))) ≤ co
    omega
end
theorem eqF_nil (w : World) (g n c : Nat) : (binOp .eql 64 (.slice (some ⟨g, 0, none⟩) n c) (.slice none 0 0)).run Try.prog w = .ok (.bool false) w := Lib.run_eql_slice_nil w _ _ (some ⟨g, 0, none⟩) n c 0 0 Try.underlying64
structure WkRel (P : Prg) (hs : List (List Int)) (co : Int) (base : Nat) (w4 : World) (kS : Nat) (lv dv : Value) (wr : World) : Prop where
  out : ∃ (L r : List FrM) (y : FrM) (K gl cL d : Nat), lv = .slice (some ⟨gl, 0, none⟩) (K + 1) cL ∧ dv = .int .i64 (d : Int) ∧ d ≤ kS ∧ K ≤ 200 ∧ Hid (L.length = K + 1 ∧ WkOk P hs co d L y r) ∧ Own wr base 63 4 (some ⟨gl, 0, none⟩) (K + 1) cL (L.flatMap frCells) ∧ Hid (BeenM wr base L) ∧ Below w4.heap.size w4 wr
theorem goesW_ne {i : Ins} {j : Nat} (e : i.op ≠ 1 ∧ i.op ≠ 2 ∧ i.op ≠ 18) : (goesL i j).length ≠ 0 := by
  obtain ⟨e1, e2, e3⟩ := e
  unfold goesL
  rw [if_neg (by rintro (h | h | h) <;> contradiction)]
  split
  · simp
  split
  · simp
  split <;> simp
def gbOf (y : FrM) : Nat × List Bool := (y.g, y.x.been)
theorem BeenM.congr {w : World} {base : Nat} {l l' : List FrM} (h : BeenM w base l) (e : l'.map gbOf = l.map gbOf) : BeenM w base l' := by
  have key : ∀ (i : Nat) (y : FrM), l'[i]? = some y → ∃ z, l[i]? = some z ∧ z.g = y.g ∧ z.x.been = y.x.been := fun i y hy => by
    have h1 : (l'.map gbOf)[i]? = some (gbOf y) := by rw [List.getElem?_map, hy]; rfl
    rw [e, List.getElem?_map] at h1
    cases hz : l[i]? with
    | none => rw [hz] at h1; cases h1
    | some z =>
      rw [hz] at h1
      have h2 := Option.some.inj h1
      injection h2 with h2 h3
      exact ⟨z, rfl, h2, h3⟩
  refine ⟨fun y hy => ?_, fun i j y z hy hz hij => ?_⟩
  · obtain ⟨i, hi⟩ := List.mem_iff_getElem?.1 hy
    obtain ⟨z, hz, h1, h2⟩ := key i y hi
    rw [← h1, ← h2]
    exact h.own z (List.mem_of_getElem? hz)
  · obtain ⟨y', h1, h2, -⟩ := key i y hy
    obtain ⟨z', h3, h4, -⟩ := key j z hz
    rw [← h2, ← h4]
    exact h.apart i j y' z' h1 h3 hij
theorem BeenM.front {w : World} {base : Nat} {l m : List FrM} (h : BeenM w base (l ++ m)) : BeenM w base l :=
  ⟨fun y hy => h.own y (List.mem_append_left _ hy), fun i j y z hy hz hij => h.apart i j y z (by rw [List.getElem?_append_left (List.getElem?_eq_some_iff.1 hy).1]; exact hy) (by rw [List.getElem?_append_left (List.getElem?_eq_some_iff.1 hz).1]; exact hz) hij⟩
theorem BeenM.below {w w' : World} {base : Nat} {l : List FrM} (h : BeenM w base l) (hb : Below w.heap.size w w') : BeenM w' base l := ⟨fun y hy => Own.below (h.own y hy) hb (Nat.le_refl _), h.apart⟩
theorem BeenM.lt {w : World} {base : Nat} {l : List FrM} (h : BeenM w base l) : ∀ y ∈ l, base ≤ y.g ∧ y.g < w.heap.size := fun y hy => Own.row (h.own y hy) y.g rfl
theorem BeenM.push {w : World} {base b2 : Nat} {l : List FrM} (h : BeenM w base l) {y : FrM} (hy : OwnL w b2 (some ⟨y.g, 0, none⟩) y.x.been.length y.x.been.length y.x.been) (hb : base ≤ b2) (hl : ∀ z ∈ l, z.g < b2) : BeenM w base (l ++ [y]) := by
  have hg : b2 ≤ y.g := (Own.row hy y.g rfl).1
  refine ⟨fun z hz => ?_, fun i j a b ha hb' hij => ?_⟩
  · rcases List.mem_append.1 hz with hz | hz
    · exact h.own z hz
    · rw [List.mem_singleton.1 hz]; exact hy.mono hb
  · have key : ∀ (k : Nat) (x : FrM), (l ++ [y])[k]? = some x → (l[k]? = some x ∧ k < l.length) ∨ (k = l.length ∧ x = y) := by
      intro k x hk
      by_cases h1 : k < l.length
      · rw [List.getElem?_append_left h1] at hk; exact .inl ⟨hk, h1⟩
      · rw [List.getElem?_append_right (by omega)] at hk
        have h2 := (List.getElem?_eq_some_iff.1 hk).1
        have h3 : k - l.length = 0 := by simpa using h2
        rw [h3] at hk
        exact .inr ⟨by omega, (Option.some.inj hk).symm⟩
    rcases key i a ha with ⟨h1, -⟩ | ⟨h1, rfl⟩
    · rcases key j b hb' with ⟨h2, -⟩ | ⟨h2, rfl⟩
      · exact h.apart i j a b h1 h2 hij
      · have := hl a (List.mem_of_getElem? h1); omega
    · rcases key j b hb' with ⟨h2, -⟩ | ⟨h2, rfl⟩
      · have := hl b (List.mem_of_getElem? h2); omega
      · omega
/-- A place of the top one's is marked. -/
theorem BeenM.mark {w : World} {base : Nat} {l : List FrM} {y : FrM} (h : BeenM w base (l ++ [y])) (n : Nat) (x : Fr) (hx : x.been = y.x.been.set n true) : BeenM (w.setCell ⟨y.g, n, none⟩ (.bool true)) base (l ++ [⟨x, y.g⟩]) := by
  have hO : Only (fun b => b = y.g) w (w.setCell ⟨y.g, n, none⟩ (.bool true)) := (Only.refl (fun b => b = y.g) w).setCell (p := ⟨y.g, n, none⟩) (.inl rfl) _
  have hyl : (l ++ [y])[l.length]? = some y := by rw [List.getElem?_append_right (Nat.le_refl _), Nat.sub_self]; rfl
  refine ⟨fun z hz => ?_, fun i j a b ha hb hij => ?_⟩
  · rcases List.mem_append.1 hz with hz | hz
    · obtain ⟨k, hk⟩ := List.mem_iff_getElem?.1 hz
      have hkl := (List.getElem?_eq_some_iff.1 hk).1
      have h1 := h.apart k l.length z y (by rw [List.getElem?_append_left hkl]; exact hk) hyl (by omega)
      exact Own.only (h.own z (List.mem_append_left _ hz)) hO fun b o e e2 => by
        have e3 := Option.some.inj e
        injection e3 with e3
        exact h1 (e3.trans e2)
    · rw [List.mem_singleton.1 hz]
      have h1 := (h.own y (by simp)).put n true
      show OwnL _ base (some ⟨y.g, 0, none⟩) x.been.length x.been.length x.been
      rw [hx, List.length_set]
      exact h1
  · have key : ∀ (k : Nat) (z : FrM), (l ++ [(⟨x, y.g⟩ : FrM)])[k]? = some z → ∃ z', (l ++ [y])[k]? = some z' ∧ z'.g = z.g := by
      intro k z hk
      by_cases h1 : k < l.length
      · rw [List.getElem?_append_left h1] at hk
        exact ⟨z, by rw [List.getElem?_append_left h1]; exact hk, rfl⟩
      · rw [List.getElem?_append_right (by omega)] at hk
        have h2 := (List.getElem?_eq_some_iff.1 hk).1
        have h3 : k - l.length = 0 := by simpa using h2
        rw [h3] at hk
        have h4 : (⟨x, y.g⟩ : FrM) = z := Option.some.inj hk
        exact ⟨y, by rw [List.getElem?_append_right (by omega), h3]; rfl, by rw [← h4]⟩
    obtain ⟨a', h1, h2⟩ := key i a ha
    obtain ⟨b', h3, h4⟩ := key j b hb
    rw [← h2, ← h4]
    exact h.apart i j a' b' h1 h3 hij
set_option maxRecDepth 100000 in
set_option maxHeartbeats 20000000 in
theorem checkWalks_walk (p : PrgM) (A : Option Addr) (c : Nat) (ts : List Int) (steps : Int) (w : World) (hp : PrgAt w p) (hr : RV w A (ts.map iv)) (htl : ts.length ≤ 9223372036854775807) :
    Calls Try.prog 9 #[p.val, .slice A ts.length c, .int .i64 steps] w fun e w' => e = .returned (.bool true) ∧ Below w.heap.size w w' := by
  have hfl : p.fs.length ≤ 2932031007402 := hp.flen
  obtain ⟨w1, hw1⟩ : ∃ w1, w1 = w.alloc (.cells #[.int .i64 p.mem, .slice p.AD p.data.length p.cD, .slice p.AF p.fs.length p.cF] 26) := ⟨_, rfl⟩
  have hb1 : Below w.heap.size w w1 := by rw [hw1]; exact (Below.refl _ _).alloc (Nat.le_refl _) _
  obtain ⟨gx, hgx⟩ : ∃ g, g = w.heap.size := ⟨_, rfl⟩
  have hX : Blk w1 gx 26 #[.int .i64 p.mem, .slice p.AD p.data.length p.cD, .slice p.AF p.fs.length p.cF] := by rw [hw1, hgx]; exact Blk.new _ _ _
  have HX := Lib.hid hX
  have HP1 := Lib.hid (hp.below hb1)
  have HB1 := Lib.hid hb1
  have Hw1 := Lib.hid hw1
  have Hgx := Lib.hid hgx
  have HTs := Lib.hid (hr.below hb1)
  have HA := Lib.hid (all13_any p w1 (hp.below hb1))
  have x0 : w1.cell? ⟨gx, 0, none⟩ = some (.int .i64 p.mem) := hX.cell 0
  have x1 : w1.cell? ⟨gx, 1, none⟩ = some (.slice p.AD p.data.length p.cD) := hX.cell 1
  have x2 : w1.cell? ⟨gx, 2, none⟩ = some (.slice p.AF p.fs.length p.cF) := hX.cell 2
  have xl := hX.lt
  clear hp hb1 hX hw1 hgx hr
  go_enter Try.func9, Try.ntmps9
  go_upto_region 1 with (fail)
  rw [← Hw1.out, ← Hgx.out]
  clear Hw1 Hgx
  go_wp2_with fail
  refine HA.out.mono ?_
  rintro e w2 ⟨⟨x, rfl⟩, hb2⟩
  have Hb2 := Lib.hid (HB1.out.trans (hb2.mono HB1.out.size))
  have hX2 := HX.out.below hb2 HX.out.lt
  have y0 : w2.cell? ⟨gx, 0, none⟩ = some (.int .i64 p.mem) := hX2.cell 0
  have y1 : w2.cell? ⟨gx, 1, none⟩ = some (.slice p.AD p.data.length p.cD) := hX2.cell 1
  have y2 : w2.cell? ⟨gx, 2, none⟩ = some (.slice p.AF p.fs.length p.cF) := hX2.cell 2
  have yl := hX2.lt
  have HX2 := Lib.hid hX2
  have HP2 := Lib.hid (HP1.out.below hb2)
  have HT2 := Lib.hid (HTs.out.below hb2)
  clear hb2 hX2 x0 x1 x2 xl HA HTs
  by_cases hx : 4000 < x
  · go_wp2_with fail
    refine (head13_any w2).mono ?_
    rintro e w3 ⟨rfl, hb3⟩
    have HB3 := Lib.hid (Hb2.out.trans (hb3.mono Hb2.out.size))
    clear hb3
    go_wp2_with fail
    go_ret
    exact ⟨rfl, HB3.out⟩
  · have HR := Lib.hid (run_any p w2 HP2.out)
    go_wp2_with fail
    refine HR.out.mono ?_
    rintro e w3 ⟨hb3, ⟨x, hx, rfl⟩ | ⟨hs, tops, lps, live, ce, co, HRr, LR, AH, cH, AT, cT, AL, cL', gL, hok, hM, hL, rfl⟩⟩
    · as_aux_lemma =>
      obtain ⟨er, ff, nn⟩ := x
      have her := badW_ne hx
      dsimp only at her
      have her2 : (er != 0) = true := by simpa using her
      have HB3 := Lib.hid (Hb2.out.trans (hb3.mono Hb2.out.size))
      clear hb3 hx y0 y1 y2 yl HR her
      dsimp only [zFacts, faultV]
      go_wp2_with fail
      refine (head13_any _).mono ?_
      rintro e w4 ⟨rfl, hb4⟩
      have HB4 := Lib.hid (show Below w.heap.size w w4 from (((HB3.out.alloc HB3.out.size _).alloc (by have := HB3.out.size; simp; omega) _)).trans (hb4.mono (by have := HB3.out.size; simp; omega)))
      clear hb4
      go_wp2_with fail
      go_ret
      exact ⟨rfl, HB4.out⟩
    · as_aux_lemma =>
      have hnl : p.plain.fs.length = p.fs.length := by simp [PrgM.plain]
      obtain ⟨n, hn⟩ : ∃ n, n = p.fs.length := ⟨_, rfl⟩
      have hhl : hs.length = n := by rw [hok.lh, hnl, hn]
      have hll : lps.length = n := by rw [hok.ll, hnl, hn]
      have hlv : live.length = n := by rw [hok.lv, hnl, hn]
      have hn64 : 1 ≤ n ∧ n ≤ 64 := by have := good_many hok.lead.chk; rw [hnl, ← hn] at this; exact this
      obtain ⟨bh, -, hAH, -, hbh, -, -⟩ := rows_at hM.hh hM.sh hM.oh (f := 0) (by omega)
      obtain ⟨bl, -, hAL, -, hbl, -, -⟩ := rows_at hM.hl hM.sl hM.ol (f := 0) (by omega)
      have HAH := Lib.hid hAH
      have HAL := Lib.hid hAL
      rw [hhl, hll, hlv, hAH, hAL]
      rw [hlv] at hL
      generalize tops.length = nt
      rw [← hn] at y2
      obtain ⟨w4, hw4⟩ : ∃ w4, w4 = (w3.alloc (.cells #[.slice (some ⟨bh, 0, none⟩) n cH, .slice AT nt cT, .slice (some ⟨bl, 0, none⟩) n cL', .slice (some ⟨gL, 0, none⟩) n n, .int .i64 ce, .int .i64 co] 32)).alloc (.cells #[.int .i64 0, .int .i64 0, .int .i64 0] 37) := ⟨_, rfl⟩
      obtain ⟨gG, hgG⟩ : ∃ g, g = w3.heap.size + 1 := ⟨_, rfl⟩
      obtain ⟨gF, hgF⟩ : ∃ g, g = w3.heap.size := ⟨_, rfl⟩
      have hb4 : Below w3.heap.size w3 w4 := by rw [hw4]; exact ((Below.refl _ _).alloc (Nat.le_refl _) _).alloc (by simp) _
      have hF4 : Blk w4 gF 32 #[.slice (some ⟨bh, 0, none⟩) n cH, .slice AT nt cT, .slice (some ⟨bl, 0, none⟩) n cL', .slice (some ⟨gL, 0, none⟩) n n, .int .i64 ce, .int .i64 co] := by rw [hw4, hgF]; exact (Blk.new w3 _ _).alloc _
      have hG4 : Blk w4 gG 37 #[.int .i64 0, .int .i64 0, .int .i64 0] := by rw [hw4, hgG]; exact Blk.new2 _ _ _ _
      have hX4 := (HX2.out.below hb3 HX2.out.lt).below hb4 (HX2.out.below hb3 HX2.out.lt).lt
      have HB4 := Lib.hid (show Below w.heap.size w w4 from (Hb2.out.trans (hb3.mono Hb2.out.size)).trans (hb4.mono (Nat.le_trans Hb2.out.size hb3.size)))
      have hP4 := (HP2.out.below hb3).below hb4
      have HT4 := Lib.hid ((HT2.out.below hb3).below hb4)
      have HP4 := Lib.hid hP4
      have HX4 := Lib.hid hX4
      have HF4 := Lib.hid hF4
      have HM4 := Lib.hid (hM.below hb4)
      have HL4 := Lib.hid (Own.below hL hb4 (Nat.le_refl _))
      have Hw4 := Lib.hid hw4
      have HgG := Lib.hid hgG
      have HgF := Lib.hid hgF
      have Hok := Lib.hid hok
      have Hn := Lib.hid hn
      have Hlen := Lib.hid (show hs.length = n ∧ lps.length = n ∧ live.length = n ∧ p.plain.fs.length = n from ⟨hhl, hll, hlv, by rw [hnl, hn]⟩)
      have Hpv := Lib.hid (show p.val = .agg #[.int .i64 p.mem, .slice p.AD p.data.length p.cD, .slice p.AF n p.cF] from by rw [hn])
      have f0 : w4.cell? ⟨gF, 0, none⟩ = some (.slice (some ⟨bh, 0, none⟩) n cH) := hF4.cell 0
      have f2 : w4.cell? ⟨gF, 2, none⟩ = some (.slice (some ⟨bl, 0, none⟩) n cL') := hF4.cell 2
      have f3 : w4.cell? ⟨gF, 3, none⟩ = some (.slice (some ⟨gL, 0, none⟩) n n) := hF4.cell 3
      have fl := hF4.lt
      have g0 : w4.cell? ⟨gG, 0, none⟩ = some (.int .i64 0) := hG4.cell 0
      have gl' := hG4.lt
      obtain ⟨gk0, hgk0⟩ : ∃ g, p.fs[0]? = some g := ⟨_, List.getElem?_eq_getElem (by omega)⟩
      obtain ⟨b0, off0, hA, hb0, -, -, -, q3, -, -⟩ := hP4.fn hgk0
      obtain ⟨N0, hN0⟩ : ∃ m, m = p.plain.len 0 := ⟨_, rfl⟩
      have hcl0 : gk0.code.length = N0 := by rw [hN0]; exact (PrgM.len_plain (f := 0) hgk0).symm
      have hN04 : N0 ≤ 4096 := by rw [hN0]; exact good_len hok.good 0
      rw [hcl0] at q3
      rw [Nat.zero_mul, Nat.add_zero] at q3
      obtain ⟨g0A, hg0A⟩ : ∃ A, A = gk0.A := ⟨_, rfl⟩
      obtain ⟨g0c, hg0c⟩ : ∃ A, A = gk0.c := ⟨_, rfl⟩
      rw [← hg0A, ← hg0c] at q3
      have y24 : w4.cell? ⟨gx, 2, none⟩ = some (.slice (some ⟨b0, off0, none⟩) n p.cF) := by rw [← hA, hn]; exact hX4.cell 2
      have yl4 := hX4.lt
      have hn0 : (0 : Int) < (n : Int) := by omega
      have hmk := run_bools N0 (by omega)
      obtain ⟨w5, hw5⟩ : ∃ w', w' = w4.alloc (.cells (Array.replicate N0 (bo false)) 4) := ⟨_, rfl⟩
      obtain ⟨gB0, hgB0⟩ : ∃ g, g = w4.heap.size := ⟨_, rfl⟩
      have hb5 : Below w4.heap.size w4 w5 := by rw [hw5]; exact (Below.refl _ _).alloc (Nat.le_refl _) _
      have hL5 : OwnL w5 w4.heap.size (some ⟨gB0, 0, none⟩) N0 N0 (List.replicate N0 false) := by
        rw [hw5, hgB0, show Array.replicate N0 (bo false) = ((List.replicate N0 false).map bo).toArray from by simp]
        exact OwnL.lit w4 N0 (by omega) _ (by simp)
      obtain ⟨w6, hw6⟩ : ∃ w', w' = w5.alloc (.cells #[.int .i64 0, .int .i64 0, .int .i64 0, .slice (some ⟨gB0, 0, none⟩) N0 N0] 63) := ⟨_, rfl⟩
      obtain ⟨gl0, hgl0⟩ : ∃ g, g = w4.heap.size + 1 := ⟨_, rfl⟩
      have hz5 : w5.heap.size = gl0 := by rw [hw5, hgl0]; simp
      have hb6 : Below w5.heap.size w5 w6 := by rw [hw6]; exact (Below.refl _ _).alloc (Nat.le_refl _) _
      have HB46 := Lib.hid (hb5.trans (hb6.mono hb5.size))
      have HO6 := Lib.hid (show Own w6 w4.heap.size 63 4 (some ⟨gl0, 0, none⟩) (0 + 1) 1 ([(⟨⟨0, 0, 0, List.replicate N0 false⟩, gB0⟩ : FrM)].flatMap frCells) from by
        have h := Own.lit w5 63 4 1 #[.int .i64 0, .int .i64 0, .int .i64 0, .slice (some ⟨gB0, 0, none⟩) N0 N0] (Nat.le_refl _) (by decide) rfl
        rw [← hw6, hz5] at h
        have e : [(⟨⟨0, 0, 0, List.replicate N0 false⟩, gB0⟩ : FrM)].flatMap frCells = [.int .i64 0, .int .i64 0, .int .i64 0, .slice (some ⟨gB0, 0, none⟩) N0 N0] := by
          show ([.int .i64 ((0 : Nat) : Int), .int .i64 ((0 : Nat) : Int), .int .i64 0, .slice (some ⟨gB0, 0, none⟩) (List.replicate N0 false).length (List.replicate N0 false).length] : List Value) = _
          rw [List.length_replicate]
          rfl
        rw [e]
        exact h.mono (by omega))
      have HBe6 := Lib.hid (show BeenM w6 w4.heap.size [(⟨⟨0, 0, 0, List.replicate N0 false⟩, gB0⟩ : FrM)] from ⟨fun y hy => by
        rw [List.mem_singleton.1 hy]
        show OwnL w6 w4.heap.size (some ⟨gB0, 0, none⟩) (List.replicate N0 false).length (List.replicate N0 false).length (List.replicate N0 false)
        rw [List.length_replicate]
        exact Own.below hL5 hb6 (Nat.le_refl _), fun i j y z hy hz hij => by
        have h1 := (List.getElem?_eq_some_iff.1 hy).1
        have h2 := (List.getElem?_eq_some_iff.1 hz).1
        rw [List.length_singleton] at h1 h2
        omega⟩)
      have Hw5 := Lib.hid hw5
      have Hw6 := Lib.hid hw6
      have HgB0 := Lib.hid hgB0
      have Hgl0 := Lib.hid hgl0
      have HN0 := Lib.hid hN0
      clear hnl hn hhl hll hlv hAH hAL hbh hbl hw4 hgG hgF hb3 hb4 hF4 hG4 hX4 hM hL hok hP4 hgk0 hA hN0 hcl0 hg0A hg0c hw5 hgB0 hb5 hL5 hw6 hgl0 hz5 hb6 y0 y1 y2 yl HR
      dsimp only [faultV]
      go_upto_region 4 with (fail)
      rw [← Hw4.out, ← HgG.out, ← HgF.out]
      clear Hw4 HgG HgF
      go_upto_region 10 with (fail)
      rw [← Hw5.out, ← Hgl0.out, ← HgB0.out]
      try rw [← Hw6.out]
      clear Hw5 HgB0 Hgl0
      have hs0 := Int.emod_nonneg steps (show ((3000 : Nat) : Int) ≠ 0 by decide)
      have hs1 := Int.emod_lt_of_pos steps (show (0 : Int) < ((3000 : Nat) : Int) by decide)
      obtain ⟨kS, hkS⟩ : ∃ k : Nat, (k : Int) = steps % ((3000 : Nat) : Int) := ⟨(steps % ((3000 : Nat) : Int)).toNat, by omega⟩
      have Hrd := Lib.hid (fun w' => roundW_any steps 3000 kS hkS (by decide) (by decide) w')
      have hkS2 : kS ≤ 3000 := by omega
      clear f0 f2 f3 fl g0 gl' q3 y24 yl4 hmk hs0 hs1 hkS
      go_wp2_with fail
      go_loopw [10, 11] (fun lv dv wr => WkRel p.plain hs co w4.heap.size w4 kS lv dv wr) (fun _ dv _ => kS - (intOf dv).toNat)
      case atStart =>
        refine ⟨⟨_, [], ⟨⟨0, 0, 0, List.replicate N0 false⟩, gB0⟩, 0, gl0, 1, 0, rfl, rfl, Nat.zero_le _, Nat.zero_le _, Lib.hid ⟨rfl, ?_⟩, HO6.out, HBe6, HB46.out⟩⟩
        rw [HN0.out]
        exact WkOk.first Hok.out gB0
      case round =>
        as_aux_lemma =>
        clear HO6 HBe6
        rename World => wr
        obtain ⟨L, r, y, K, gl, cL, d, rfl, rfl, hd, hK, HW, hO, HBe, hB⟩ := hrel.out
        have HO := Lib.hid hO
        have HB := Lib.hid hB
        clear hO hB
        go_wp2_with fail
        refine (Hrd.out _).mono ?_
        rintro e w' ⟨rfl, hww⟩
        obtain rfl : wr = w' := hww.symm
        by_cases hlt : d < kS
        · have g1 : (d : Int) < (kS : Int) := by omega
          have hW := HW.out.2
          have hok := Hok.out
          have hlen := HW.out.1
          have hrl : r.length = K := by
            have h1 := hlen
            rw [hW.rev, List.length_append, List.length_reverse] at h1
            simpa using h1
          have hyL : L[K]? = some y := by
            rw [hW.rev, List.getElem?_append_right (by rw [List.length_reverse, hrl]; exact Nat.le_refl _), List.length_reverse, hrl, Nat.sub_self]
            rfl
          have hTop := hW.top
          have hft : y.x.f < p.plain.fs.length := hok.flt hTop.live
          have hFin := hok.fin y.x.f hft
          obtain ⟨i, hi⟩ := hTop.ins hok
          have hI := ins_facts hok.lead.chk hi
          have hnl : y.x.n < p.plain.len y.x.f := Prg.ins_lt hi
          obtain ⟨yf, hyf⟩ : ∃ m, m = y.x.f := ⟨_, rfl⟩
          obtain ⟨yn, hyn⟩ : ∃ m, m = y.x.n := ⟨_, rfl⟩
          obtain ⟨yh, hyh⟩ : ∃ m, m = y.x.h := ⟨_, rfl⟩
          obtain ⟨yg, hyg⟩ : ∃ m, m = y.g := ⟨_, rfl⟩
          obtain ⟨bn, hbn⟩ : ∃ m, m = y.x.been.length := ⟨_, rfl⟩
          have hbl : bn = p.plain.len yf := by rw [hbn, hyf]; exact hTop.been.len
          have hRV := RV.of_own HO.out
          obtain ⟨glq, olq, hglq, hglw, hlc⟩ := hRV.at_ (by rw [frCells_len, hlen]; omega)
          injection hglq with hglq
          injection hglq with e1 e2
          subst e1 e2
          obtain ⟨c0, c1, c2, c3⟩ := fr_cells hlc K y hyL
          simp only [Nat.zero_add] at c0 c1 c2 c3
          rw [← hyf] at c0
          rw [← hyn] at c1
          rw [← hyh] at c2
          rw [← hyg, ← hbn] at c3
          obtain ⟨w7, hw7⟩ : ∃ w', w' = wr.alloc (.cells #[.int .i64 (yf : Int), .int .i64 (yn : Int), .int .i64 yh, .slice (some ⟨yg, 0, none⟩) bn bn] 63) := ⟨_, rfl⟩
          obtain ⟨gn, hgn⟩ : ∃ g, g = wr.heap.size := ⟨_, rfl⟩
          have hb7 : Below wr.heap.size wr w7 := by rw [hw7]; exact (Below.refl _ _).alloc (Nat.le_refl _) _
          have hN7 : Blk w7 gn 63 #[.int .i64 (yf : Int), .int .i64 (yn : Int), .int .i64 yh, .slice (some ⟨yg, 0, none⟩) bn bn] := by rw [hw7, hgn]; exact Blk.new _ _ _
          have hB47 : Below w4.heap.size w4 w7 := HB.out.trans (hb7.mono HB.out.size)
          have hfn : yf < n := by rw [hyf, ← Hlen.out.2.2.2]; exact hft
          obtain ⟨gk, hgk⟩ : ∃ g, p.fs[yf]? = some g := ⟨_, List.getElem?_eq_getElem (by rw [← Hn.out]; exact hfn)⟩
          have hP7 := HP4.out.below hB47
          obtain ⟨b0, off0, hA, hb0, -, -, -, q3, hFn, -⟩ := hP7.fn hgk
          have hcl : gk.code.length = bn := by rw [hbl]; exact (PrgM.len_plain hgk).symm
          have hgi : gk.code[yn]? = some i := by
            have h := hi
            rw [← hyf, ← hyn, p.ins_plain, hgk, Option.bind_some] at h
            exact h
          obtain ⟨b1, off1, hA1, hb1, i0, i1, -, -⟩ := hFn.ins hgi
          rw [hA1, hcl] at q3
          have hX7 := HX4.out.below hB47 HX4.out.lt
          have hAb : p.AF = some ⟨b0, off0, none⟩ := hA
          have hF7 := HF4.out.below hB47 HF4.out.lt
          have hM7 := HM4.out.below hB47
          have hL7 := Own.below HL4.out hB47 (Nat.le_refl _)
          obtain ⟨bq, rr, hAq, -, hbq, hcq, hOq⟩ := rows_at hM7.hh hM7.sh hM7.oh (f := yf) (by rw [Hlen.out.1]; exact hfn)
          rw [HAH.out] at hAq
          injection hAq with hAq
          injection hAq with e3 e4
          subst e3
          rw [show (hs.getD yf []).length = bn from by rw [hbl, hyf]; exact hFin.len] at hcq hOq
          obtain ⟨rh, hrA, -, hrl'⟩ := own_some hOq (by rw [hbl, hyf]; omega)
          rw [hrA] at hcq hOq
          obtain ⟨rc, hrc⟩ : ∃ m, m = rr.c := ⟨_, rfl⟩
          rw [← hrc] at hcq
          have hrow : w7.cell? ⟨rh, yn, none⟩ = some (.int .i64 yh) := by
            have h1 := OwnI.at_ hOq yn (by rw [hyn, hyf, hFin.len]; exact hnl)
            have h2 : (hs.getD yf [])[yn]? = some yh := by rw [hyf, hyn, hyh]; exact hTop.at_
            rw [(List.getElem?_eq_some_iff.1 h2).2] at h1
            exact h1
          obtain ⟨bq2, r2, hAq2, -, hbq2, hcq2, hOq2⟩ := rows_at hM7.hl hM7.sl hM7.ol (f := yf) (by rw [Hlen.out.2.1]; exact hfn)
          rw [HAL.out] at hAq2
          injection hAq2 with hAq2
          injection hAq2 with e5 e6
          subst e5
          obtain ⟨lA, hlA⟩ : ∃ m, m = r2.A := ⟨_, rfl⟩
          obtain ⟨lc, hlc2⟩ : ∃ m, m = r2.c := ⟨_, rfl⟩
          obtain ⟨nl, hnl2⟩ : ∃ m, m = (lps.getD yf []).length := ⟨_, rfl⟩
          rw [← hlA, ← hlc2, ← hnl2] at hcq2
          have hlv : w7.cell? ⟨gL, yf, none⟩ = some (.bool true) := by
            have h1 := OwnL.at_ hL7 yf (by rw [Hlen.out.2.2.1]; exact hfn)
            have h2 : live[yf]? = some true := (hok.live yf).2 (by rw [hyf]; exact hTop.live)
            rw [(List.getElem?_eq_some_iff.1 h2).2] at h1
            exact h1
          have hlvl := (OwnL.room hL7 yf (by rw [Hlen.out.2.2.1]; exact hfn)).2
          have hSw7 : (fun w' => (w'.cell? ⟨gn, 0, none⟩ = some (.int .i64 (yf : Int)) ∧ w'.cell? ⟨gn, 1, none⟩ = some (.int .i64 (yn : Int)) ∧ w'.cell? ⟨gn, 2, none⟩ = some (.int .i64 yh) ∧ w'.cell? ⟨gn, 3, none⟩ = some (.slice (some ⟨yg, 0, none⟩) bn bn) ∧ gn < w'.heap.size) ∧ (w'.cell? ⟨gF, 0, none⟩ = some (.slice (some ⟨bh, 0, none⟩) n cH) ∧ w'.cell? ⟨gF, 2, none⟩ = some (.slice (some ⟨bl, 0, none⟩) n cL') ∧ w'.cell? ⟨gF, 3, none⟩ = some (.slice (some ⟨gL, 0, none⟩) n n) ∧ w'.cell? ⟨gF, 4, none⟩ = some (.int .i64 ce) ∧ w'.cell? ⟨gF, 5, none⟩ = some (.int .i64 co) ∧ gF < w'.heap.size) ∧ (w'.cell? ⟨bh, yf, none⟩ = some (.slice (some ⟨rh, 0, none⟩) bn rc) ∧ bh < w'.heap.size) ∧ (w'.cell? ⟨rh, yn, none⟩ = some (.int .i64 yh) ∧ rh < w'.heap.size) ∧ (w'.cell? ⟨gL, yf, none⟩ = some (.bool true) ∧ gL < w'.heap.size) ∧ (w'.cell? ⟨bl, yf, none⟩ = some (.slice lA nl lc) ∧ bl < w'.heap.size) ∧ (w'.cell? ⟨gx, 0, none⟩ = some (.int .i64 p.mem) ∧ w'.cell? ⟨gx, 1, none⟩ = some (.slice p.AD p.data.length p.cD) ∧ w'.cell? ⟨gx, 2, none⟩ = some (.slice (some ⟨b0, off0, none⟩) n p.cF) ∧ gx < w'.heap.size)) w7 := ⟨⟨hN7.cell 0, hN7.cell 1, hN7.cell 2, hN7.cell 3, hN7.lt⟩, ⟨hF7.cell 0, hF7.cell 2, hF7.cell 3, hF7.cell 4, hF7.cell 5, hF7.lt⟩, ⟨hcq, hbq⟩, ⟨hrow, hrl'⟩, ⟨hlv, hlvl⟩, ⟨hcq2, hbq2⟩, ⟨hX7.cell 0, hX7.cell 1, by rw [Hn.out, ← hAb]; exact hX7.cell 2, hX7.lt⟩⟩
          have hlr7 : RV w7 lA ((lps.getD yf []).map iv) := by rw [hlA]; exact RV.of_own hOq2
          have HSw7 := Lib.hid hSw7
          have Hlr7 := Lib.hid hlr7
          have HyE := Lib.hid (show yf = y.x.f ∧ yn = y.x.n ∧ yh = y.x.h ∧ yg = y.g ∧ bn = y.x.been.length from ⟨hyf, hyn, hyh, hyg, hbn⟩)
          have Hbl := Lib.hid (show bn = p.plain.len yf ∧ yn < bn ∧ r.length = K ∧ nl = (lps.getD yf []).length ∧ yf < n from ⟨hbl, by rw [hbl, hyn, hyf]; exact hnl, hrl, hnl2, hfn⟩)
          have HyL := Lib.hid hyL
          have Hi := Lib.hid hi
          have HI := Lib.hid hI
          have HA1 := Lib.hid (show gk.A = some ⟨b1, off1, none⟩ ∧ p.fs[yf]? = some gk ∧ gk.code[yn]? = some i from ⟨hA1, hgk, hgi⟩)
          have Hgk := Lib.hid (show w7.cell? ⟨b1, off1 + yn * 2, none⟩ = some (.int .i64 i.op) ∧ w7.cell? ⟨b1, off1 + yn * 2 + 1, none⟩ = some (.int .i64 i.a) ∧ b1 < w7.heap.size from ⟨i0, i1, hb1⟩)
          have HB47 := Lib.hid hB47
          have HN7 := Lib.hid hN7
          have HBe7 := Lib.hid (HBe.out.below hb7)
          have HO7 := Lib.hid (Own.below HO.out hb7 (Nat.le_refl _))
          have Hw7 := Lib.hid hw7
          have Hgn := Lib.hid hgn
          have HnlB := Lib.hid (show nl ≤ 1000000 from by
            have h1 := hok.loops yf (by rw [Hlen.out.2.2.2]; exact hfn)
            rw [hnl2, h1]
            unfold loopsL
            rw [List.length_map]
            have h2 := good_len hok.good yf
            exact Nat.le_trans (List.length_filter_le _ _) (by rw [List.length_range]; omega))
          have s1 : ((K : Int) + 1 - 1) = (K : Int) := by omega
          have s2 : IntKind.i64.wrap (K : Int) = (K : Int) := by rw [IntKind.wrap_i64]; omega
          have kb : (K : Int) < (K : Int) + 1 := by omega
          have gyf : (yf : Int) < (n : Int) := by omega
          have gyn : (yn : Int) < (bn : Int) := by have := Hbl.out.2.1; omega
          have gyn2 : ¬ (bn : Int) ≤ (yn : Int) := by omega
          have gyn3 : yn < bn := Hbl.out.2.1
          have x2 : w7.cell? ⟨gx, 2, none⟩ = some (.slice (some ⟨b0, off0, none⟩) n p.cF) := hSw7.2.2.2.2.2.2.2.2.1
          have xl := hX7.lt
          have n0 : w7.cell? ⟨gn, 0, none⟩ = some (.int .i64 (yf : Int)) := hN7.cell 0
          have nl' := hN7.lt
          obtain ⟨gkc, hgkc⟩ : ∃ m, m = gk.c := ⟨_, rfl⟩
          rw [← hgkc] at q3
          clear hW hok hlen hrl hyL hTop hft hFin hi hI hnl hyf hyn hyh hyg hbn hbl hRV hlc hw7 hgn hb7 hN7 hB47 hfn hgk hP7 hA hFn hcl hgi hA1 i0 i1 hX7 hAb hF7 hM7 hL7 hbq hcq hOq hrA hrl' hrc hrow hbq2 hcq2 hOq2 hlA hlc2 hnl2 hlv hlvl hSw7 hlr7 hgkc
          go_upto_region 14 with (fail)
          rw [← Hw7.out, ← Hgn.out]
          clear Hw7 c0 c1 c2 c3 hglw
          go_upto_if 119 with (fail)
          clear x2 xl n0 nl' q3
          go_cut [119] from 81 to 215 (fun s wx => s = .bool false ∧ Below w7.heap.size w7 wx)
          case first =>
            as_aux_lemma =>
            have hSw7 := HSw7.out
            clear HSw7
            go_upto_region 15 with (fail)
            obtain ⟨SC, hSCd⟩ : ∃ S : World → Prop, S = fun w' => (w'.cell? ⟨gn, 0, none⟩ = some (.int .i64 (yf : Int)) ∧ w'.cell? ⟨gn, 1, none⟩ = some (.int .i64 (yn : Int)) ∧ w'.cell? ⟨gn, 2, none⟩ = some (.int .i64 yh) ∧ w'.cell? ⟨gn, 3, none⟩ = some (.slice (some ⟨yg, 0, none⟩) bn bn) ∧ gn < w'.heap.size) ∧ (w'.cell? ⟨gF, 0, none⟩ = some (.slice (some ⟨bh, 0, none⟩) n cH) ∧ w'.cell? ⟨gF, 2, none⟩ = some (.slice (some ⟨bl, 0, none⟩) n cL') ∧ w'.cell? ⟨gF, 3, none⟩ = some (.slice (some ⟨gL, 0, none⟩) n n) ∧ w'.cell? ⟨gF, 4, none⟩ = some (.int .i64 ce) ∧ w'.cell? ⟨gF, 5, none⟩ = some (.int .i64 co) ∧ gF < w'.heap.size) ∧ (w'.cell? ⟨bh, yf, none⟩ = some (.slice (some ⟨rh, 0, none⟩) bn rc) ∧ bh < w'.heap.size) ∧ (w'.cell? ⟨rh, yn, none⟩ = some (.int .i64 yh) ∧ rh < w'.heap.size) ∧ (w'.cell? ⟨gL, yf, none⟩ = some (.bool true) ∧ gL < w'.heap.size) ∧ (w'.cell? ⟨bl, yf, none⟩ = some (.slice lA nl lc) ∧ bl < w'.heap.size) ∧ (w'.cell? ⟨gx, 0, none⟩ = some (.int .i64 p.mem) ∧ w'.cell? ⟨gx, 1, none⟩ = some (.slice p.AD p.data.length p.cD) ∧ w'.cell? ⟨gx, 2, none⟩ = some (.slice (some ⟨b0, off0, none⟩) n p.cF) ∧ gx < w'.heap.size) := ⟨_, rfl⟩
            have hSC : SC w7.drew := by rw [hSCd]; exact hSw7
            have HSC := Lib.hid (show SC w7.drew from hSC)
            have HSd := Lib.hid hSCd
            clear hSC hSCd
            refine region_heldT 39 SC (by kernel_rfl) (by decide) ?_
            refine HeadW.takeA 0 (v := .pointer (some ⟨gn, 0, none⟩)) rfl (by kernel_rfl) rfl (by decide) (fun _ _ _ hL => seqB_ready hL.1) (by kernel_rfl) (by kernel_rfl) (fun _ _ _ h => h) HSC.out (.inl ⟨by kernel_rfl, by intro w hSw; rw [HSd.out] at hSw; obtain ⟨⟨a0, a1, a2, a3, al⟩, ⟨d0, d2, d3, d4, d5, dl⟩, ⟨h0, hl⟩, ⟨r0, rl⟩, ⟨v0, vl⟩, ⟨o0, ol⟩, ⟨z0, z1, z2, zl⟩⟩ := hSw; go_simp⟩) ?_
            simp only [Act.put, List.setIfInBounds_toArray]
            refine HeadW.takeA 1 (v := .pointer (some ⟨gn, 1, none⟩)) rfl (by kernel_rfl) rfl (by decide) (fun _ _ _ hL => seqB_ready hL.1) (by kernel_rfl) (by kernel_rfl) (fun _ _ _ h => h) HSC.out (.inl ⟨by kernel_rfl, by intro w hSw; rw [HSd.out] at hSw; obtain ⟨⟨a0, a1, a2, a3, al⟩, ⟨d0, d2, d3, d4, d5, dl⟩, ⟨h0, hl⟩, ⟨r0, rl⟩, ⟨v0, vl⟩, ⟨o0, ol⟩, ⟨z0, z1, z2, zl⟩⟩ := hSw; go_simp⟩) ?_
            simp only [Act.put]
            refine HeadW.takeA 2 (v := .int .i64 (yn : Int)) rfl (by kernel_rfl) rfl (by decide) (fun _ _ _ hL => seqB_ready hL.1) (by kernel_rfl) (by kernel_rfl) (fun _ _ _ h => h) HSC.out (.inl ⟨by kernel_rfl, by intro w hSw; rw [HSd.out] at hSw; obtain ⟨⟨a0, a1, a2, a3, al⟩, ⟨d0, d2, d3, d4, d5, dl⟩, ⟨h0, hl⟩, ⟨r0, rl⟩, ⟨v0, vl⟩, ⟨o0, ol⟩, ⟨z0, z1, z2, zl⟩⟩ := hSw; go_simp⟩) ?_
            simp only [Act.put]
            try simp only [List.getElem_toArray, List.getElem_cons_succ, List.getElem_cons_zero, List.setIfInBounds_toArray, List.set_cons_succ, List.set_cons_zero]
            refine HeadW.takeA 3 (v := .pointer (some ⟨gF, 0, none⟩)) rfl (by kernel_rfl) rfl (by decide) (fun _ _ _ hL => seqB_ready hL.1) (by kernel_rfl) (by kernel_rfl) (fun _ _ _ h => h) HSC.out (.inl ⟨by kernel_rfl, by intro w hSw; rw [HSd.out] at hSw; obtain ⟨⟨a0, a1, a2, a3, al⟩, ⟨d0, d2, d3, d4, d5, dl⟩, ⟨h0, hl⟩, ⟨r0, rl⟩, ⟨v0, vl⟩, ⟨o0, ol⟩, ⟨z0, z1, z2, zl⟩⟩ := hSw; go_simp⟩) ?_
            simp only [Act.put]
            refine HeadW.takeA 4 (v := .slice (some ⟨bh, 0, none⟩) n cH) rfl (by kernel_rfl) rfl (by decide) (fun _ _ _ hL => seqB_ready hL.1) (by kernel_rfl) (by kernel_rfl) (fun _ _ _ h => h) HSC.out (.inl ⟨by kernel_rfl, by intro w hSw; rw [HSd.out] at hSw; obtain ⟨⟨a0, a1, a2, a3, al⟩, ⟨d0, d2, d3, d4, d5, dl⟩, ⟨h0, hl⟩, ⟨r0, rl⟩, ⟨v0, vl⟩, ⟨o0, ol⟩, ⟨z0, z1, z2, zl⟩⟩ := hSw; go_simp⟩) ?_
            simp only [Act.put]
            refine HeadW.takeA 5 (v := .pointer (some ⟨gn, 0, none⟩)) rfl (by kernel_rfl) rfl (by decide) (fun _ _ _ hL => seqB_ready hL.1) (by kernel_rfl) (by kernel_rfl) (fun _ _ _ h => h) HSC.out (.inl ⟨by kernel_rfl, by intro w hSw; rw [HSd.out] at hSw; obtain ⟨⟨a0, a1, a2, a3, al⟩, ⟨d0, d2, d3, d4, d5, dl⟩, ⟨h0, hl⟩, ⟨r0, rl⟩, ⟨v0, vl⟩, ⟨o0, ol⟩, ⟨z0, z1, z2, zl⟩⟩ := hSw; go_simp⟩) ?_
            simp only [Act.put]
            try simp only [List.getElem_toArray, List.getElem_cons_succ, List.getElem_cons_zero, List.setIfInBounds_toArray, List.set_cons_succ, List.set_cons_zero]
            refine HeadW.takeA 6 (v := .pointer (some ⟨gn, 0, none⟩)) rfl (by kernel_rfl) rfl (by decide) (fun _ _ _ hL => seqB_ready hL.1) (by kernel_rfl) (by kernel_rfl) (fun _ _ _ h => h) HSC.out (.inl ⟨by kernel_rfl, by intro w hSw; rw [HSd.out] at hSw; obtain ⟨⟨a0, a1, a2, a3, al⟩, ⟨d0, d2, d3, d4, d5, dl⟩, ⟨h0, hl⟩, ⟨r0, rl⟩, ⟨v0, vl⟩, ⟨o0, ol⟩, ⟨z0, z1, z2, zl⟩⟩ := hSw; go_simp⟩) ?_
            simp only [Act.put]
            refine HeadW.takeA 7 (v := .int .i64 (yf : Int)) rfl (by kernel_rfl) rfl (by decide) (fun _ _ _ hL => seqB_ready hL.1) (by kernel_rfl) (by kernel_rfl) (fun _ _ _ h => h) HSC.out (.inl ⟨by kernel_rfl, by intro w hSw; rw [HSd.out] at hSw; obtain ⟨⟨a0, a1, a2, a3, al⟩, ⟨d0, d2, d3, d4, d5, dl⟩, ⟨h0, hl⟩, ⟨r0, rl⟩, ⟨v0, vl⟩, ⟨o0, ol⟩, ⟨z0, z1, z2, zl⟩⟩ := hSw; go_simp⟩) ?_
            simp only [Act.put]
            refine HeadW.takeA 8 (v := .pointer (some ⟨bh, yf, none⟩)) rfl (by kernel_rfl) rfl (by decide) (fun _ _ _ hL => seqB_ready hL.1) (by kernel_rfl) (by kernel_rfl) (fun _ _ _ h => h) HSC.out (.inl ⟨by kernel_rfl, by intro w hSw; rw [HSd.out] at hSw; obtain ⟨⟨a0, a1, a2, a3, al⟩, ⟨d0, d2, d3, d4, d5, dl⟩, ⟨h0, hl⟩, ⟨r0, rl⟩, ⟨v0, vl⟩, ⟨o0, ol⟩, ⟨z0, z1, z2, zl⟩⟩ := hSw; go_simp⟩) ?_
            simp only [Act.put]
            try simp only [List.getElem_toArray, List.getElem_cons_succ, List.getElem_cons_zero, List.setIfInBounds_toArray, List.set_cons_succ, List.set_cons_zero]
            refine HeadW.takeA 9 (v := .slice (some ⟨rh, 0, none⟩) bn rc) rfl (by kernel_rfl) rfl (by decide) (fun _ _ _ hL => seqB_ready hL.1) (by kernel_rfl) (by kernel_rfl) (fun _ _ _ h => h) HSC.out (.inl ⟨by kernel_rfl, by intro w hSw; rw [HSd.out] at hSw; obtain ⟨⟨a0, a1, a2, a3, al⟩, ⟨d0, d2, d3, d4, d5, dl⟩, ⟨h0, hl⟩, ⟨r0, rl⟩, ⟨v0, vl⟩, ⟨o0, ol⟩, ⟨z0, z1, z2, zl⟩⟩ := hSw; go_simp⟩) ?_
            simp only [Act.put]
            refine HeadW.takeA 10 (v := .int .i64 (bn : Int)) rfl (by kernel_rfl) rfl (by decide) (fun _ _ _ hL => seqB_ready hL.1) (by kernel_rfl) (by kernel_rfl) (fun _ _ _ h => h) HSC.out (.inl ⟨by kernel_rfl, by intro w hSw; rw [HSd.out] at hSw; obtain ⟨⟨a0, a1, a2, a3, al⟩, ⟨d0, d2, d3, d4, d5, dl⟩, ⟨h0, hl⟩, ⟨r0, rl⟩, ⟨v0, vl⟩, ⟨o0, ol⟩, ⟨z0, z1, z2, zl⟩⟩ := hSw; go_simp⟩) ?_
            simp only [Act.put]
            refine HeadW.takeA 11 (v := .bool false) rfl (by kernel_rfl) rfl (by decide) (fun _ _ _ hL => seqB_ready hL.1) (by kernel_rfl) (by kernel_rfl) (fun _ _ _ h => h) HSC.out (.inl ⟨by kernel_rfl, by intro w hSw; rw [HSd.out] at hSw; obtain ⟨⟨a0, a1, a2, a3, al⟩, ⟨d0, d2, d3, d4, d5, dl⟩, ⟨h0, hl⟩, ⟨r0, rl⟩, ⟨v0, vl⟩, ⟨o0, ol⟩, ⟨z0, z1, z2, zl⟩⟩ := hSw; go_simp⟩) ?_
            simp only [Act.put]
            try simp only [List.getElem_toArray, List.getElem_cons_succ, List.getElem_cons_zero, List.setIfInBounds_toArray, List.set_cons_succ, List.set_cons_zero]
            refine HeadW.takeA 12 (v := .bool false) rfl (by kernel_rfl) rfl (by decide) (fun _ _ _ hL => seqB_ready hL.1) (by kernel_rfl) (by kernel_rfl) (fun _ _ _ h => h) HSC.out (.inl ⟨by kernel_rfl, by intro w hSw; rw [HSd.out] at hSw; obtain ⟨⟨a0, a1, a2, a3, al⟩, ⟨d0, d2, d3, d4, d5, dl⟩, ⟨h0, hl⟩, ⟨r0, rl⟩, ⟨v0, vl⟩, ⟨o0, ol⟩, ⟨z0, z1, z2, zl⟩⟩ := hSw; go_simp⟩) ?_
            simp only [Act.put]
            refine HeadW.takeA 13 (v := .pointer (some ⟨gF, 0, none⟩)) rfl (by kernel_rfl) rfl (by decide) (fun _ _ _ hL => seqB_ready hL.1) (by kernel_rfl) (by kernel_rfl) (fun _ _ _ h => h) HSC.out (.inl ⟨by kernel_rfl, by intro w hSw; rw [HSd.out] at hSw; obtain ⟨⟨a0, a1, a2, a3, al⟩, ⟨d0, d2, d3, d4, d5, dl⟩, ⟨h0, hl⟩, ⟨r0, rl⟩, ⟨v0, vl⟩, ⟨o0, ol⟩, ⟨z0, z1, z2, zl⟩⟩ := hSw; go_simp⟩) ?_
            simp only [Act.put]
            refine HeadW.takeA 14 (v := .slice (some ⟨bh, 0, none⟩) n cH) rfl (by kernel_rfl) rfl (by decide) (fun _ _ _ hL => seqB_ready hL.1) (by kernel_rfl) (by kernel_rfl) (fun _ _ _ h => h) HSC.out (.inl ⟨by kernel_rfl, by intro w hSw; rw [HSd.out] at hSw; obtain ⟨⟨a0, a1, a2, a3, al⟩, ⟨d0, d2, d3, d4, d5, dl⟩, ⟨h0, hl⟩, ⟨r0, rl⟩, ⟨v0, vl⟩, ⟨o0, ol⟩, ⟨z0, z1, z2, zl⟩⟩ := hSw; go_simp⟩) ?_
            simp only [Act.put]
            try simp only [List.getElem_toArray, List.getElem_cons_succ, List.getElem_cons_zero, List.setIfInBounds_toArray, List.set_cons_succ, List.set_cons_zero]
            refine HeadW.takeA 15 (v := .pointer (some ⟨gn, 0, none⟩)) rfl (by kernel_rfl) rfl (by decide) (fun _ _ _ hL => seqB_ready hL.1) (by kernel_rfl) (by kernel_rfl) (fun _ _ _ h => h) HSC.out (.inl ⟨by kernel_rfl, by intro w hSw; rw [HSd.out] at hSw; obtain ⟨⟨a0, a1, a2, a3, al⟩, ⟨d0, d2, d3, d4, d5, dl⟩, ⟨h0, hl⟩, ⟨r0, rl⟩, ⟨v0, vl⟩, ⟨o0, ol⟩, ⟨z0, z1, z2, zl⟩⟩ := hSw; go_simp⟩) ?_
            simp only [Act.put]
            refine HeadW.takeA 16 (v := .pointer (some ⟨gn, 0, none⟩)) rfl (by kernel_rfl) rfl (by decide) (fun _ _ _ hL => seqB_ready hL.1) (by kernel_rfl) (by kernel_rfl) (fun _ _ _ h => h) HSC.out (.inl ⟨by kernel_rfl, by intro w hSw; rw [HSd.out] at hSw; obtain ⟨⟨a0, a1, a2, a3, al⟩, ⟨d0, d2, d3, d4, d5, dl⟩, ⟨h0, hl⟩, ⟨r0, rl⟩, ⟨v0, vl⟩, ⟨o0, ol⟩, ⟨z0, z1, z2, zl⟩⟩ := hSw; go_simp⟩) ?_
            simp only [Act.put]
            refine HeadW.takeA 17 (v := .int .i64 (yf : Int)) rfl (by kernel_rfl) rfl (by decide) (fun _ _ _ hL => seqB_ready hL.1) (by kernel_rfl) (by kernel_rfl) (fun _ _ _ h => h) HSC.out (.inl ⟨by kernel_rfl, by intro w hSw; rw [HSd.out] at hSw; obtain ⟨⟨a0, a1, a2, a3, al⟩, ⟨d0, d2, d3, d4, d5, dl⟩, ⟨h0, hl⟩, ⟨r0, rl⟩, ⟨v0, vl⟩, ⟨o0, ol⟩, ⟨z0, z1, z2, zl⟩⟩ := hSw; go_simp⟩) ?_
            simp only [Act.put]
            try simp only [List.getElem_toArray, List.getElem_cons_succ, List.getElem_cons_zero, List.setIfInBounds_toArray, List.set_cons_succ, List.set_cons_zero]
            refine HeadW.takeA 18 (v := .pointer (some ⟨bh, yf, none⟩)) rfl (by kernel_rfl) rfl (by decide) (fun _ _ _ hL => seqB_ready hL.1) (by kernel_rfl) (by kernel_rfl) (fun _ _ _ h => h) HSC.out (.inl ⟨by kernel_rfl, by intro w hSw; rw [HSd.out] at hSw; obtain ⟨⟨a0, a1, a2, a3, al⟩, ⟨d0, d2, d3, d4, d5, dl⟩, ⟨h0, hl⟩, ⟨r0, rl⟩, ⟨v0, vl⟩, ⟨o0, ol⟩, ⟨z0, z1, z2, zl⟩⟩ := hSw; go_simp⟩) ?_
            simp only [Act.put]
            refine HeadW.takeA 19 (v := .slice (some ⟨rh, 0, none⟩) bn rc) rfl (by kernel_rfl) rfl (by decide) (fun _ _ _ hL => seqB_ready hL.1) (by kernel_rfl) (by kernel_rfl) (fun _ _ _ h => h) HSC.out (.inl ⟨by kernel_rfl, by intro w hSw; rw [HSd.out] at hSw; obtain ⟨⟨a0, a1, a2, a3, al⟩, ⟨d0, d2, d3, d4, d5, dl⟩, ⟨h0, hl⟩, ⟨r0, rl⟩, ⟨v0, vl⟩, ⟨o0, ol⟩, ⟨z0, z1, z2, zl⟩⟩ := hSw; go_simp⟩) ?_
            simp only [Act.put]
            refine HeadW.takeA 20 (v := .pointer (some ⟨gn, 0, none⟩)) rfl (by kernel_rfl) rfl (by decide) (fun _ _ _ hL => seqB_ready hL.1) (by kernel_rfl) (by kernel_rfl) (fun _ _ _ h => h) HSC.out (.inl ⟨by kernel_rfl, by intro w hSw; rw [HSd.out] at hSw; obtain ⟨⟨a0, a1, a2, a3, al⟩, ⟨d0, d2, d3, d4, d5, dl⟩, ⟨h0, hl⟩, ⟨r0, rl⟩, ⟨v0, vl⟩, ⟨o0, ol⟩, ⟨z0, z1, z2, zl⟩⟩ := hSw; go_simp⟩) ?_
            simp only [Act.put]
            try simp only [List.getElem_toArray, List.getElem_cons_succ, List.getElem_cons_zero, List.setIfInBounds_toArray, List.set_cons_succ, List.set_cons_zero]
            refine HeadW.takeA 21 (v := .pointer (some ⟨gn, 1, none⟩)) rfl (by kernel_rfl) rfl (by decide) (fun _ _ _ hL => seqB_ready hL.1) (by kernel_rfl) (by kernel_rfl) (fun _ _ _ h => h) HSC.out (.inl ⟨by kernel_rfl, by intro w hSw; rw [HSd.out] at hSw; obtain ⟨⟨a0, a1, a2, a3, al⟩, ⟨d0, d2, d3, d4, d5, dl⟩, ⟨h0, hl⟩, ⟨r0, rl⟩, ⟨v0, vl⟩, ⟨o0, ol⟩, ⟨z0, z1, z2, zl⟩⟩ := hSw; go_simp⟩) ?_
            simp only [Act.put]
            refine HeadW.takeA 22 (v := .int .i64 (yn : Int)) rfl (by kernel_rfl) rfl (by decide) (fun _ _ _ hL => seqB_ready hL.1) (by kernel_rfl) (by kernel_rfl) (fun _ _ _ h => h) HSC.out (.inl ⟨by kernel_rfl, by intro w hSw; rw [HSd.out] at hSw; obtain ⟨⟨a0, a1, a2, a3, al⟩, ⟨d0, d2, d3, d4, d5, dl⟩, ⟨h0, hl⟩, ⟨r0, rl⟩, ⟨v0, vl⟩, ⟨o0, ol⟩, ⟨z0, z1, z2, zl⟩⟩ := hSw; go_simp⟩) ?_
            simp only [Act.put]
            refine HeadW.takeA 23 (v := .pointer (some ⟨rh, yn, none⟩)) rfl (by kernel_rfl) rfl (by decide) (fun _ _ _ hL => seqB_ready hL.1) (by kernel_rfl) (by kernel_rfl) (fun _ _ _ h => h) HSC.out (.inl ⟨by kernel_rfl, by intro w hSw; rw [HSd.out] at hSw; obtain ⟨⟨a0, a1, a2, a3, al⟩, ⟨d0, d2, d3, d4, d5, dl⟩, ⟨h0, hl⟩, ⟨r0, rl⟩, ⟨v0, vl⟩, ⟨o0, ol⟩, ⟨z0, z1, z2, zl⟩⟩ := hSw; go_simp⟩) ?_
            simp only [Act.put]
            try simp only [List.getElem_toArray, List.getElem_cons_succ, List.getElem_cons_zero, List.setIfInBounds_toArray, List.set_cons_succ, List.set_cons_zero]
            refine HeadW.takeA 24 (v := .int .i64 yh) rfl (by kernel_rfl) rfl (by decide) (fun _ _ _ hL => seqB_ready hL.1) (by kernel_rfl) (by kernel_rfl) (fun _ _ _ h => h) HSC.out (.inl ⟨by kernel_rfl, by intro w hSw; rw [HSd.out] at hSw; obtain ⟨⟨a0, a1, a2, a3, al⟩, ⟨d0, d2, d3, d4, d5, dl⟩, ⟨h0, hl⟩, ⟨r0, rl⟩, ⟨v0, vl⟩, ⟨o0, ol⟩, ⟨z0, z1, z2, zl⟩⟩ := hSw; go_simp⟩) ?_
            simp only [Act.put]
            refine HeadW.takeA 25 (v := .pointer (some ⟨gn, 2, none⟩)) rfl (by kernel_rfl) rfl (by decide) (fun _ _ _ hL => seqB_ready hL.1) (by kernel_rfl) (by kernel_rfl) (fun _ _ _ h => h) HSC.out (.inl ⟨by kernel_rfl, by intro w hSw; rw [HSd.out] at hSw; obtain ⟨⟨a0, a1, a2, a3, al⟩, ⟨d0, d2, d3, d4, d5, dl⟩, ⟨h0, hl⟩, ⟨r0, rl⟩, ⟨v0, vl⟩, ⟨o0, ol⟩, ⟨z0, z1, z2, zl⟩⟩ := hSw; go_simp⟩) ?_
            simp only [Act.put]
            refine HeadW.takeA 26 (v := .int .i64 yh) rfl (by kernel_rfl) rfl (by decide) (fun _ _ _ hL => seqB_ready hL.1) (by kernel_rfl) (by kernel_rfl) (fun _ _ _ h => h) HSC.out (.inl ⟨by kernel_rfl, by intro w hSw; rw [HSd.out] at hSw; obtain ⟨⟨a0, a1, a2, a3, al⟩, ⟨d0, d2, d3, d4, d5, dl⟩, ⟨h0, hl⟩, ⟨r0, rl⟩, ⟨v0, vl⟩, ⟨o0, ol⟩, ⟨z0, z1, z2, zl⟩⟩ := hSw; go_simp⟩) ?_
            simp only [Act.put]
            try simp only [List.getElem_toArray, List.getElem_cons_succ, List.getElem_cons_zero, List.setIfInBounds_toArray, List.set_cons_succ, List.set_cons_zero]
            refine HeadW.takeA 27 (v := .bool false) rfl (by kernel_rfl) rfl (by decide) (fun _ _ _ hL => seqB_ready hL.1) (by kernel_rfl) (by kernel_rfl) (fun _ _ _ h => h) HSC.out (.inl ⟨by kernel_rfl, by intro w hSw; rw [HSd.out] at hSw; obtain ⟨⟨a0, a1, a2, a3, al⟩, ⟨d0, d2, d3, d4, d5, dl⟩, ⟨h0, hl⟩, ⟨r0, rl⟩, ⟨v0, vl⟩, ⟨o0, ol⟩, ⟨z0, z1, z2, zl⟩⟩ := hSw; go_simp⟩) ?_
            simp only [Act.put]
            refine HeadW.takeA 28 (v := .bool false) rfl (by kernel_rfl) rfl (by decide) (fun _ _ _ hL => seqB_ready hL.1) (by kernel_rfl) (by kernel_rfl) (fun _ _ _ h => h) HSC.out (.inl ⟨by kernel_rfl, by intro w hSw; rw [HSd.out] at hSw; obtain ⟨⟨a0, a1, a2, a3, al⟩, ⟨d0, d2, d3, d4, d5, dl⟩, ⟨h0, hl⟩, ⟨r0, rl⟩, ⟨v0, vl⟩, ⟨o0, ol⟩, ⟨z0, z1, z2, zl⟩⟩ := hSw; go_simp⟩) ?_
            simp only [Act.put]
            refine HeadW.takeA 29 (v := .bool false) rfl (by kernel_rfl) rfl (by decide) (fun _ _ _ hL => seqB_ready hL.1) (by kernel_rfl) (by kernel_rfl) (fun _ _ _ h => h) HSC.out (.inl ⟨by kernel_rfl, by intro w hSw; rw [HSd.out] at hSw; obtain ⟨⟨a0, a1, a2, a3, al⟩, ⟨d0, d2, d3, d4, d5, dl⟩, ⟨h0, hl⟩, ⟨r0, rl⟩, ⟨v0, vl⟩, ⟨o0, ol⟩, ⟨z0, z1, z2, zl⟩⟩ := hSw; go_simp⟩) ?_
            simp only [Act.put]
            try simp only [List.getElem_toArray, List.getElem_cons_succ, List.getElem_cons_zero, List.setIfInBounds_toArray, List.set_cons_succ, List.set_cons_zero]
            refine HeadW.takeA 30 (v := .pointer (some ⟨gF, 3, none⟩)) rfl (by kernel_rfl) rfl (by decide) (fun _ _ _ hL => seqB_ready hL.1) (by kernel_rfl) (by kernel_rfl) (fun _ _ _ h => h) HSC.out (.inl ⟨by kernel_rfl, by intro w hSw; rw [HSd.out] at hSw; obtain ⟨⟨a0, a1, a2, a3, al⟩, ⟨d0, d2, d3, d4, d5, dl⟩, ⟨h0, hl⟩, ⟨r0, rl⟩, ⟨v0, vl⟩, ⟨o0, ol⟩, ⟨z0, z1, z2, zl⟩⟩ := hSw; go_simp⟩) ?_
            simp only [Act.put]
            refine HeadW.takeA 31 (v := .slice (some ⟨gL, 0, none⟩) n n) rfl (by kernel_rfl) rfl (by decide) (fun _ _ _ hL => seqB_ready hL.1) (by kernel_rfl) (by kernel_rfl) (fun _ _ _ h => h) HSC.out (.inl ⟨by kernel_rfl, by intro w hSw; rw [HSd.out] at hSw; obtain ⟨⟨a0, a1, a2, a3, al⟩, ⟨d0, d2, d3, d4, d5, dl⟩, ⟨h0, hl⟩, ⟨r0, rl⟩, ⟨v0, vl⟩, ⟨o0, ol⟩, ⟨z0, z1, z2, zl⟩⟩ := hSw; go_simp⟩) ?_
            simp only [Act.put]
            refine HeadW.takeA 32 (v := .pointer (some ⟨gn, 0, none⟩)) rfl (by kernel_rfl) rfl (by decide) (fun _ _ _ hL => seqB_ready hL.1) (by kernel_rfl) (by kernel_rfl) (fun _ _ _ h => h) HSC.out (.inl ⟨by kernel_rfl, by intro w hSw; rw [HSd.out] at hSw; obtain ⟨⟨a0, a1, a2, a3, al⟩, ⟨d0, d2, d3, d4, d5, dl⟩, ⟨h0, hl⟩, ⟨r0, rl⟩, ⟨v0, vl⟩, ⟨o0, ol⟩, ⟨z0, z1, z2, zl⟩⟩ := hSw; go_simp⟩) ?_
            simp only [Act.put]
            try simp only [List.getElem_toArray, List.getElem_cons_succ, List.getElem_cons_zero, List.setIfInBounds_toArray, List.set_cons_succ, List.set_cons_zero]
            refine HeadW.takeA 33 (v := .pointer (some ⟨gn, 0, none⟩)) rfl (by kernel_rfl) rfl (by decide) (fun _ _ _ hL => seqB_ready hL.1) (by kernel_rfl) (by kernel_rfl) (fun _ _ _ h => h) HSC.out (.inl ⟨by kernel_rfl, by intro w hSw; rw [HSd.out] at hSw; obtain ⟨⟨a0, a1, a2, a3, al⟩, ⟨d0, d2, d3, d4, d5, dl⟩, ⟨h0, hl⟩, ⟨r0, rl⟩, ⟨v0, vl⟩, ⟨o0, ol⟩, ⟨z0, z1, z2, zl⟩⟩ := hSw; go_simp⟩) ?_
            simp only [Act.put]
            refine HeadW.takeA 34 (v := .int .i64 (yf : Int)) rfl (by kernel_rfl) rfl (by decide) (fun _ _ _ hL => seqB_ready hL.1) (by kernel_rfl) (by kernel_rfl) (fun _ _ _ h => h) HSC.out (.inl ⟨by kernel_rfl, by intro w hSw; rw [HSd.out] at hSw; obtain ⟨⟨a0, a1, a2, a3, al⟩, ⟨d0, d2, d3, d4, d5, dl⟩, ⟨h0, hl⟩, ⟨r0, rl⟩, ⟨v0, vl⟩, ⟨o0, ol⟩, ⟨z0, z1, z2, zl⟩⟩ := hSw; go_simp⟩) ?_
            simp only [Act.put]
            refine HeadW.takeA 35 (v := .pointer (some ⟨gL, yf, none⟩)) rfl (by kernel_rfl) rfl (by decide) (fun _ _ _ hL => seqB_ready hL.1) (by kernel_rfl) (by kernel_rfl) (fun _ _ _ h => h) HSC.out (.inl ⟨by kernel_rfl, by intro w hSw; rw [HSd.out] at hSw; obtain ⟨⟨a0, a1, a2, a3, al⟩, ⟨d0, d2, d3, d4, d5, dl⟩, ⟨h0, hl⟩, ⟨r0, rl⟩, ⟨v0, vl⟩, ⟨o0, ol⟩, ⟨z0, z1, z2, zl⟩⟩ := hSw; go_simp⟩) ?_
            simp only [Act.put]
            try simp only [List.getElem_toArray, List.getElem_cons_succ, List.getElem_cons_zero, List.setIfInBounds_toArray, List.set_cons_succ, List.set_cons_zero]
            refine HeadW.takeA 36 (v := .bool true) rfl (by kernel_rfl) rfl (by decide) (fun _ _ _ hL => seqB_ready hL.1) (by kernel_rfl) (by kernel_rfl) (fun _ _ _ h => h) HSC.out (.inl ⟨by kernel_rfl, by intro w hSw; rw [HSd.out] at hSw; obtain ⟨⟨a0, a1, a2, a3, al⟩, ⟨d0, d2, d3, d4, d5, dl⟩, ⟨h0, hl⟩, ⟨r0, rl⟩, ⟨v0, vl⟩, ⟨o0, ol⟩, ⟨z0, z1, z2, zl⟩⟩ := hSw; go_simp⟩) ?_
            simp only [Act.put]
            refine HeadW.takeA 37 (v := .bool false) rfl (by kernel_rfl) rfl (by decide) (fun _ _ _ hL => seqB_ready hL.1) (by kernel_rfl) (by kernel_rfl) (fun _ _ _ h => h) HSC.out (.inl ⟨by kernel_rfl, by intro w hSw; rw [HSd.out] at hSw; obtain ⟨⟨a0, a1, a2, a3, al⟩, ⟨d0, d2, d3, d4, d5, dl⟩, ⟨h0, hl⟩, ⟨r0, rl⟩, ⟨v0, vl⟩, ⟨o0, ol⟩, ⟨z0, z1, z2, zl⟩⟩ := hSw; go_simp⟩) ?_
            simp only [Act.put]
            refine HeadW.takeA 38 (v := .bool false) rfl (by kernel_rfl) rfl (by decide) (fun _ _ _ hL => seqB_ready hL.1) (by kernel_rfl) (by kernel_rfl) (fun _ _ _ h => h) HSC.out (.inl ⟨by kernel_rfl, by intro w hSw; rw [HSd.out] at hSw; obtain ⟨⟨a0, a1, a2, a3, al⟩, ⟨d0, d2, d3, d4, d5, dl⟩, ⟨h0, hl⟩, ⟨r0, rl⟩, ⟨v0, vl⟩, ⟨o0, ol⟩, ⟨z0, z1, z2, zl⟩⟩ := hSw; go_simp⟩) ?_
            simp only [Act.put]
            try simp only [List.getElem_toArray, List.getElem_cons_succ, List.getElem_cons_zero, List.setIfInBounds_toArray, List.set_cons_succ, List.set_cons_zero]
            try simp only [List.getElem_toArray, List.getElem_cons_succ, List.getElem_cons_zero, List.setIfInBounds_toArray, List.set_cons_succ, List.set_cons_zero]
            refine fun hInv => ⟨by kernel_rfl, ?_⟩
            clear hInv
            simp only [List.drop_succ_cons, List.drop_zero]
            clear HSC HSd
            clear SC
            go_wp2_with fail
            go_meet
            case rel => exact ⟨rfl, (Below.refl _ w7).drew⟩
          case rest =>
          rename World => w8
          obtain ⟨rfl, hb78⟩ := hcut
          have hSw8 : (fun w' => (w'.cell? ⟨gn, 0, none⟩ = some (.int .i64 (yf : Int)) ∧ w'.cell? ⟨gn, 1, none⟩ = some (.int .i64 (yn : Int)) ∧ w'.cell? ⟨gn, 2, none⟩ = some (.int .i64 yh) ∧ w'.cell? ⟨gn, 3, none⟩ = some (.slice (some ⟨yg, 0, none⟩) bn bn) ∧ gn < w'.heap.size) ∧ (w'.cell? ⟨gF, 0, none⟩ = some (.slice (some ⟨bh, 0, none⟩) n cH) ∧ w'.cell? ⟨gF, 2, none⟩ = some (.slice (some ⟨bl, 0, none⟩) n cL') ∧ w'.cell? ⟨gF, 3, none⟩ = some (.slice (some ⟨gL, 0, none⟩) n n) ∧ w'.cell? ⟨gF, 4, none⟩ = some (.int .i64 ce) ∧ w'.cell? ⟨gF, 5, none⟩ = some (.int .i64 co) ∧ gF < w'.heap.size) ∧ (w'.cell? ⟨bh, yf, none⟩ = some (.slice (some ⟨rh, 0, none⟩) bn rc) ∧ bh < w'.heap.size) ∧ (w'.cell? ⟨rh, yn, none⟩ = some (.int .i64 yh) ∧ rh < w'.heap.size) ∧ (w'.cell? ⟨gL, yf, none⟩ = some (.bool true) ∧ gL < w'.heap.size) ∧ (w'.cell? ⟨bl, yf, none⟩ = some (.slice lA nl lc) ∧ bl < w'.heap.size) ∧ (w'.cell? ⟨gx, 0, none⟩ = some (.int .i64 p.mem) ∧ w'.cell? ⟨gx, 1, none⟩ = some (.slice p.AD p.data.length p.cD) ∧ w'.cell? ⟨gx, 2, none⟩ = some (.slice (some ⟨b0, off0, none⟩) n p.cF) ∧ gx < w'.heap.size)) w8 := by
            obtain ⟨⟨a0, a1, a2, a3, al⟩, ⟨d0, d2, d3, d4, d5, dl⟩, ⟨h0, hl⟩, ⟨r0, rl⟩, ⟨v0, vl⟩, ⟨o0, ol⟩, ⟨z0, z1, z2, zl⟩⟩ := HSw7.out
            obtain ⟨hc, -⟩ := bcell hb78
            have hz := hb78.size
            exact ⟨⟨(hc _ _ al).trans a0, (hc _ _ al).trans a1, (hc _ _ al).trans a2, (hc _ _ al).trans a3, by omega⟩, ⟨(hc _ _ dl).trans d0, (hc _ _ dl).trans d2, (hc _ _ dl).trans d3, (hc _ _ dl).trans d4, (hc _ _ dl).trans d5, by omega⟩, ⟨(hc _ _ hl).trans h0, by omega⟩, ⟨(hc _ _ rl).trans r0, by omega⟩, ⟨(hc _ _ vl).trans v0, by omega⟩, ⟨(hc _ _ ol).trans o0, by omega⟩, ⟨(hc _ _ zl).trans z0, (hc _ _ zl).trans z1, (hc _ _ zl).trans z2, by omega⟩⟩
          have HB48 := Lib.hid (HB47.out.trans (hb78.mono HB47.out.size))
          have HBe8 := Lib.hid (HBe7.out.below hb78)
          have HO8 := Lib.hid (Own.below HO7.out hb78 (Nat.le_refl _))
          have hyB := HBe8.out.own y (List.mem_of_getElem? HyL.out)
          rw [← HyE.out.2.2.2.1, ← HyE.out.2.2.2.2] at hyB
          have hynl : yn < y.x.been.length := by rw [← HyE.out.2.2.2.2]; exact Hbl.out.2.1
          have u0w := OwnL.at_ hyB yn hynl
          obtain ⟨uf, ulw⟩ := OwnL.room hyB yn hynl
          obtain ⟨bb, hbb⟩ : ∃ b, b = y.x.been[yn]'hynl := ⟨_, rfl⟩
          rw [← hbb] at u0w
          have Hbb := Lib.hid (show y.x.been[yn]? = some bb from by rw [hbb]; exact List.getElem?_eq_getElem hynl)
          have Hlr8 := Lib.hid (Hlr7.out.below hb78)
          have HSw8 := Lib.hid hSw8
          have HN8 := Lib.hid (HN7.out.below hb78 HN7.out.lt)
          clear hyB hbb hb78 hynl HB47 HBe7 HO7 Hlr7 HSw7 HN7
          go_upto_if 140 with (fail)
          go_cut [140] from 120 to 215 (fun s wx => s = .bool false ∧ Below w8.heap.size w8 wx)
          case first =>
            as_aux_lemma =>
            have hSw8 := HSw8.out
            cases bb with
            | false =>
              go_upto_region 17 with (fail)
              obtain ⟨SC, hSCd⟩ : ∃ S : World → Prop, S = fun w' => (w'.cell? ⟨gn, 0, none⟩ = some (.int .i64 (yf : Int)) ∧ w'.cell? ⟨gn, 1, none⟩ = some (.int .i64 (yn : Int)) ∧ w'.cell? ⟨gn, 2, none⟩ = some (.int .i64 yh) ∧ w'.cell? ⟨gn, 3, none⟩ = some (.slice (some ⟨yg, 0, none⟩) bn bn) ∧ gn < w'.heap.size) ∧ (w'.cell? ⟨gF, 0, none⟩ = some (.slice (some ⟨bh, 0, none⟩) n cH) ∧ w'.cell? ⟨gF, 2, none⟩ = some (.slice (some ⟨bl, 0, none⟩) n cL') ∧ w'.cell? ⟨gF, 3, none⟩ = some (.slice (some ⟨gL, 0, none⟩) n n) ∧ w'.cell? ⟨gF, 4, none⟩ = some (.int .i64 ce) ∧ w'.cell? ⟨gF, 5, none⟩ = some (.int .i64 co) ∧ gF < w'.heap.size) ∧ (w'.cell? ⟨bh, yf, none⟩ = some (.slice (some ⟨rh, 0, none⟩) bn rc) ∧ bh < w'.heap.size) ∧ (w'.cell? ⟨rh, yn, none⟩ = some (.int .i64 yh) ∧ rh < w'.heap.size) ∧ (w'.cell? ⟨gL, yf, none⟩ = some (.bool true) ∧ gL < w'.heap.size) ∧ (w'.cell? ⟨bl, yf, none⟩ = some (.slice lA nl lc) ∧ bl < w'.heap.size) ∧ (w'.cell? ⟨gx, 0, none⟩ = some (.int .i64 p.mem) ∧ w'.cell? ⟨gx, 1, none⟩ = some (.slice p.AD p.data.length p.cD) ∧ w'.cell? ⟨gx, 2, none⟩ = some (.slice (some ⟨b0, off0, none⟩) n p.cF) ∧ gx < w'.heap.size) ∧ (w'.cell? ⟨yg, yn, none⟩ = some (.bool false) ∧ yg < w'.heap.size) := ⟨_, rfl⟩
              have hSC : SC w8.drew := by rw [hSCd]; exact (by obtain ⟨⟨a0, a1, a2, a3, al⟩, ⟨d0, d2, d3, d4, d5, dl⟩, ⟨h0, hl⟩, ⟨r0, rl⟩, ⟨v0, vl⟩, ⟨o0, ol⟩, ⟨z0, z1, z2, zl⟩⟩ := hSw8; exact ⟨⟨a0, a1, a2, a3, al⟩, ⟨d0, d2, d3, d4, d5, dl⟩, ⟨h0, hl⟩, ⟨r0, rl⟩, ⟨v0, vl⟩, ⟨o0, ol⟩, ⟨z0, z1, z2, zl⟩, ⟨u0w, ulw⟩⟩)
              have HSC := Lib.hid (show SC w8.drew from hSC)
              have HSd := Lib.hid hSCd
              clear hSC hSCd
              refine region_heldT 21 SC (by kernel_rfl) (by decide) ?_
              refine HeadW.takeA 0 (v := .pointer (some ⟨gn, 3, none⟩)) rfl (by kernel_rfl) rfl (by decide) (fun _ _ _ hL => seqB_ready hL.1) (by kernel_rfl) (by kernel_rfl) (fun _ _ _ h => h) HSC.out (.inl ⟨by kernel_rfl, by intro w hSw; rw [HSd.out] at hSw; obtain ⟨⟨a0, a1, a2, a3, al⟩, ⟨d0, d2, d3, d4, d5, dl⟩, ⟨h0, hl⟩, ⟨r0, rl⟩, ⟨v0, vl⟩, ⟨o0, ol⟩, ⟨z0, z1, z2, zl⟩, ⟨u0, ul⟩⟩ := hSw; go_simp⟩) ?_
              simp only [Act.put, List.setIfInBounds_toArray]
              refine HeadW.takeA 1 (v := .slice (some ⟨yg, 0, none⟩) bn bn) rfl (by kernel_rfl) rfl (by decide) (fun _ _ _ hL => seqB_ready hL.1) (by kernel_rfl) (by kernel_rfl) (fun _ _ _ h => h) HSC.out (.inl ⟨by kernel_rfl, by intro w hSw; rw [HSd.out] at hSw; obtain ⟨⟨a0, a1, a2, a3, al⟩, ⟨d0, d2, d3, d4, d5, dl⟩, ⟨h0, hl⟩, ⟨r0, rl⟩, ⟨v0, vl⟩, ⟨o0, ol⟩, ⟨z0, z1, z2, zl⟩, ⟨u0, ul⟩⟩ := hSw; go_simp⟩) ?_
              simp only [Act.put]
              refine HeadW.takeA 2 (v := .pointer (some ⟨gn, 0, none⟩)) rfl (by kernel_rfl) rfl (by decide) (fun _ _ _ hL => seqB_ready hL.1) (by kernel_rfl) (by kernel_rfl) (fun _ _ _ h => h) HSC.out (.inl ⟨by kernel_rfl, by intro w hSw; rw [HSd.out] at hSw; obtain ⟨⟨a0, a1, a2, a3, al⟩, ⟨d0, d2, d3, d4, d5, dl⟩, ⟨h0, hl⟩, ⟨r0, rl⟩, ⟨v0, vl⟩, ⟨o0, ol⟩, ⟨z0, z1, z2, zl⟩, ⟨u0, ul⟩⟩ := hSw; go_simp⟩) ?_
              simp only [Act.put]
              try simp only [List.getElem_toArray, List.getElem_cons_succ, List.getElem_cons_zero, List.setIfInBounds_toArray, List.set_cons_succ, List.set_cons_zero]
              refine HeadW.takeA 3 (v := .pointer (some ⟨gn, 1, none⟩)) rfl (by kernel_rfl) rfl (by decide) (fun _ _ _ hL => seqB_ready hL.1) (by kernel_rfl) (by kernel_rfl) (fun _ _ _ h => h) HSC.out (.inl ⟨by kernel_rfl, by intro w hSw; rw [HSd.out] at hSw; obtain ⟨⟨a0, a1, a2, a3, al⟩, ⟨d0, d2, d3, d4, d5, dl⟩, ⟨h0, hl⟩, ⟨r0, rl⟩, ⟨v0, vl⟩, ⟨o0, ol⟩, ⟨z0, z1, z2, zl⟩, ⟨u0, ul⟩⟩ := hSw; go_simp⟩) ?_
              simp only [Act.put]
              refine HeadW.takeA 4 (v := .int .i64 (yn : Int)) rfl (by kernel_rfl) rfl (by decide) (fun _ _ _ hL => seqB_ready hL.1) (by kernel_rfl) (by kernel_rfl) (fun _ _ _ h => h) HSC.out (.inl ⟨by kernel_rfl, by intro w hSw; rw [HSd.out] at hSw; obtain ⟨⟨a0, a1, a2, a3, al⟩, ⟨d0, d2, d3, d4, d5, dl⟩, ⟨h0, hl⟩, ⟨r0, rl⟩, ⟨v0, vl⟩, ⟨o0, ol⟩, ⟨z0, z1, z2, zl⟩, ⟨u0, ul⟩⟩ := hSw; go_simp⟩) ?_
              simp only [Act.put]
              refine HeadW.takeA 5 (v := .pointer (some ⟨yg, yn, none⟩)) rfl (by kernel_rfl) rfl (by decide) (fun _ _ _ hL => seqB_ready hL.1) (by kernel_rfl) (by kernel_rfl) (fun _ _ _ h => h) HSC.out (.inl ⟨by kernel_rfl, by intro w hSw; rw [HSd.out] at hSw; obtain ⟨⟨a0, a1, a2, a3, al⟩, ⟨d0, d2, d3, d4, d5, dl⟩, ⟨h0, hl⟩, ⟨r0, rl⟩, ⟨v0, vl⟩, ⟨o0, ol⟩, ⟨z0, z1, z2, zl⟩, ⟨u0, ul⟩⟩ := hSw; go_simp⟩) ?_
              simp only [Act.put]
              try simp only [List.getElem_toArray, List.getElem_cons_succ, List.getElem_cons_zero, List.setIfInBounds_toArray, List.set_cons_succ, List.set_cons_zero]
              refine HeadW.takeA 6 (v := .bool false) rfl (by kernel_rfl) rfl (by decide) (fun _ _ _ hL => seqB_ready hL.1) (by kernel_rfl) (by kernel_rfl) (fun _ _ _ h => h) HSC.out (.inl ⟨by kernel_rfl, by intro w hSw; rw [HSd.out] at hSw; obtain ⟨⟨a0, a1, a2, a3, al⟩, ⟨d0, d2, d3, d4, d5, dl⟩, ⟨h0, hl⟩, ⟨r0, rl⟩, ⟨v0, vl⟩, ⟨o0, ol⟩, ⟨z0, z1, z2, zl⟩, ⟨u0, ul⟩⟩ := hSw; go_simp⟩) ?_
              simp only [Act.put]
              refine HeadW.takeA 7 (v := .bool false) rfl (by kernel_rfl) rfl (by decide) (fun _ _ _ hL => seqB_ready hL.1) (by kernel_rfl) (by kernel_rfl) (fun _ _ _ h => h) HSC.out (.inl ⟨by kernel_rfl, by intro w hSw; rw [HSd.out] at hSw; obtain ⟨⟨a0, a1, a2, a3, al⟩, ⟨d0, d2, d3, d4, d5, dl⟩, ⟨h0, hl⟩, ⟨r0, rl⟩, ⟨v0, vl⟩, ⟨o0, ol⟩, ⟨z0, z1, z2, zl⟩, ⟨u0, ul⟩⟩ := hSw; go_simp⟩) ?_
              simp only [Act.put]
              refine HeadW.takeA 8 (v := undef) rfl (by kernel_rfl) rfl (by decide) (fun _ _ _ hL => seqB_ready hL.1) (by kernel_rfl) (by kernel_rfl) (fun _ _ _ h => h) HSC.out (.inr ⟨by kernel_rfl, rfl⟩) ?_
              simp only [Act.put]
              try simp only [List.getElem_toArray, List.getElem_cons_succ, List.getElem_cons_zero, List.setIfInBounds_toArray, List.set_cons_succ, List.set_cons_zero]
              refine HeadW.takeA 9 (v := undef) rfl (by kernel_rfl) rfl (by decide) (fun _ _ _ hL => seqB_ready hL.1) (by kernel_rfl) (by kernel_rfl) (fun _ _ _ h => h) HSC.out (.inr ⟨by kernel_rfl, rfl⟩) ?_
              simp only [Act.put]
              refine HeadW.takeA 10 (v := undef) rfl (by kernel_rfl) rfl (by decide) (fun _ _ _ hL => seqB_ready hL.1) (by kernel_rfl) (by kernel_rfl) (fun _ _ _ h => h) HSC.out (.inr ⟨by kernel_rfl, rfl⟩) ?_
              simp only [Act.put]
              refine HeadW.takeA 11 (v := undef) rfl (by kernel_rfl) rfl (by decide) (fun _ _ _ hL => seqB_ready hL.1) (by kernel_rfl) (by kernel_rfl) (fun _ _ _ h => h) HSC.out (.inr ⟨by kernel_rfl, rfl⟩) ?_
              simp only [Act.put]
              try simp only [List.getElem_toArray, List.getElem_cons_succ, List.getElem_cons_zero, List.setIfInBounds_toArray, List.set_cons_succ, List.set_cons_zero]
              refine HeadW.takeA 12 (v := undef) rfl (by kernel_rfl) rfl (by decide) (fun _ _ _ hL => seqB_ready hL.1) (by kernel_rfl) (by kernel_rfl) (fun _ _ _ h => h) HSC.out (.inr ⟨by kernel_rfl, rfl⟩) ?_
              simp only [Act.put]
              refine HeadW.takeA 13 (v := undef) rfl (by kernel_rfl) rfl (by decide) (fun _ _ _ hL => seqB_ready hL.1) (by kernel_rfl) (by kernel_rfl) (fun _ _ _ h => h) HSC.out (.inr ⟨by kernel_rfl, rfl⟩) ?_
              simp only [Act.put]
              refine HeadW.takeA 14 (v := undef) rfl (by kernel_rfl) rfl (by decide) (fun _ _ _ hL => seqB_ready hL.1) (by kernel_rfl) (by kernel_rfl) (fun _ _ _ h => h) HSC.out (.inr ⟨by kernel_rfl, rfl⟩) ?_
              simp only [Act.put]
              try simp only [List.getElem_toArray, List.getElem_cons_succ, List.getElem_cons_zero, List.setIfInBounds_toArray, List.set_cons_succ, List.set_cons_zero]
              refine HeadW.takeA 15 (v := undef) rfl (by kernel_rfl) rfl (by decide) (fun _ _ _ hL => seqB_ready hL.1) (by kernel_rfl) (by kernel_rfl) (fun _ _ _ h => h) HSC.out (.inr ⟨by kernel_rfl, rfl⟩) ?_
              simp only [Act.put]
              refine HeadW.takeA 16 (v := undef) rfl (by kernel_rfl) rfl (by decide) (fun _ _ _ hL => seqB_ready hL.1) (by kernel_rfl) (by kernel_rfl) (fun _ _ _ h => h) HSC.out (.inr ⟨by kernel_rfl, rfl⟩) ?_
              simp only [Act.put]
              refine HeadW.takeA 17 (v := undef) rfl (by kernel_rfl) rfl (by decide) (fun _ _ _ hL => seqB_ready hL.1) (by kernel_rfl) (by kernel_rfl) (fun _ _ _ h => h) HSC.out (.inr ⟨by kernel_rfl, rfl⟩) ?_
              simp only [Act.put]
              try simp only [List.getElem_toArray, List.getElem_cons_succ, List.getElem_cons_zero, List.setIfInBounds_toArray, List.set_cons_succ, List.set_cons_zero]
              refine HeadW.takeA 18 (v := undef) rfl (by kernel_rfl) rfl (by decide) (fun _ _ _ hL => seqB_ready hL.1) (by kernel_rfl) (by kernel_rfl) (fun _ _ _ h => h) HSC.out (.inr ⟨by kernel_rfl, rfl⟩) ?_
              simp only [Act.put]
              refine HeadW.takeA 19 (v := undef) rfl (by kernel_rfl) rfl (by decide) (fun _ _ _ hL => seqB_ready hL.1) (by kernel_rfl) (by kernel_rfl) (fun _ _ _ h => h) HSC.out (.inr ⟨by kernel_rfl, rfl⟩) ?_
              simp only [Act.put]
              refine HeadW.takeA 20 (v := .bool false) rfl (by kernel_rfl) rfl (by decide) (fun _ _ _ hL => seqB_ready hL.1) (by kernel_rfl) (by kernel_rfl) (fun _ _ _ h => h) HSC.out (.inl ⟨by kernel_rfl, by intro w hSw; rw [HSd.out] at hSw; obtain ⟨⟨a0, a1, a2, a3, al⟩, ⟨d0, d2, d3, d4, d5, dl⟩, ⟨h0, hl⟩, ⟨r0, rl⟩, ⟨v0, vl⟩, ⟨o0, ol⟩, ⟨z0, z1, z2, zl⟩, ⟨u0, ul⟩⟩ := hSw; go_simp⟩) ?_
              simp only [Act.put]
              try simp only [List.getElem_toArray, List.getElem_cons_succ, List.getElem_cons_zero, List.setIfInBounds_toArray, List.set_cons_succ, List.set_cons_zero]
              try simp only [List.getElem_toArray, List.getElem_cons_succ, List.getElem_cons_zero, List.setIfInBounds_toArray, List.set_cons_succ, List.set_cons_zero]
              refine fun hInv => ⟨by kernel_rfl, ?_⟩
              clear hInv
              simp only [List.drop_succ_cons, List.drop_zero]
              clear HSC HSd
              clear SC
              go_wp2_with fail
              go_meet
              case rel => exact ⟨rfl, (Below.refl _ w8).drew⟩
            | true =>
              have HHas := Lib.hid (has13_any lA lc (lps.getD yf []) (yn : Int) w8.drew (Hlr8.out.below ((Below.refl _ w8).drew)) (by rw [← Hbl.out.2.2.2.1]; exact HnlB.out))
              rw [← Hbl.out.2.2.2.1, show decide ((yn : Int) ∈ lps.getD yf []) = true from decide_eq_true (by
                have h1 := HW.out.2.top.again Hok.out (by rw [← HyE.out.2.1]; exact Hbb.out)
                rw [← HyE.out.1, ← HyE.out.2.1] at h1
                exact h1)] at HHas
              go_upto_region 17 with (fail)
              obtain ⟨SC, hSCd⟩ : ∃ S : World → Prop, S = fun w' => (w'.cell? ⟨gn, 0, none⟩ = some (.int .i64 (yf : Int)) ∧ w'.cell? ⟨gn, 1, none⟩ = some (.int .i64 (yn : Int)) ∧ w'.cell? ⟨gn, 2, none⟩ = some (.int .i64 yh) ∧ w'.cell? ⟨gn, 3, none⟩ = some (.slice (some ⟨yg, 0, none⟩) bn bn) ∧ gn < w'.heap.size) ∧ (w'.cell? ⟨gF, 0, none⟩ = some (.slice (some ⟨bh, 0, none⟩) n cH) ∧ w'.cell? ⟨gF, 2, none⟩ = some (.slice (some ⟨bl, 0, none⟩) n cL') ∧ w'.cell? ⟨gF, 3, none⟩ = some (.slice (some ⟨gL, 0, none⟩) n n) ∧ w'.cell? ⟨gF, 4, none⟩ = some (.int .i64 ce) ∧ w'.cell? ⟨gF, 5, none⟩ = some (.int .i64 co) ∧ gF < w'.heap.size) ∧ (w'.cell? ⟨bh, yf, none⟩ = some (.slice (some ⟨rh, 0, none⟩) bn rc) ∧ bh < w'.heap.size) ∧ (w'.cell? ⟨rh, yn, none⟩ = some (.int .i64 yh) ∧ rh < w'.heap.size) ∧ (w'.cell? ⟨gL, yf, none⟩ = some (.bool true) ∧ gL < w'.heap.size) ∧ (w'.cell? ⟨bl, yf, none⟩ = some (.slice lA nl lc) ∧ bl < w'.heap.size) ∧ (w'.cell? ⟨gx, 0, none⟩ = some (.int .i64 p.mem) ∧ w'.cell? ⟨gx, 1, none⟩ = some (.slice p.AD p.data.length p.cD) ∧ w'.cell? ⟨gx, 2, none⟩ = some (.slice (some ⟨b0, off0, none⟩) n p.cF) ∧ gx < w'.heap.size) ∧ (w'.cell? ⟨yg, yn, none⟩ = some (.bool true) ∧ yg < w'.heap.size) := ⟨_, rfl⟩
              have hSC : SC w8.drew := by rw [hSCd]; exact (by obtain ⟨⟨a0, a1, a2, a3, al⟩, ⟨d0, d2, d3, d4, d5, dl⟩, ⟨h0, hl⟩, ⟨r0, rl⟩, ⟨v0, vl⟩, ⟨o0, ol⟩, ⟨z0, z1, z2, zl⟩⟩ := hSw8; exact ⟨⟨a0, a1, a2, a3, al⟩, ⟨d0, d2, d3, d4, d5, dl⟩, ⟨h0, hl⟩, ⟨r0, rl⟩, ⟨v0, vl⟩, ⟨o0, ol⟩, ⟨z0, z1, z2, zl⟩, ⟨u0w, ulw⟩⟩)
              have HSC := Lib.hid (show SC w8.drew from hSC)
              have HSd := Lib.hid hSCd
              clear hSC hSCd
              refine region_heldT 21 SC (by kernel_rfl) (by decide) ?_
              refine HeadW.takeA 0 (v := .pointer (some ⟨gn, 3, none⟩)) rfl (by kernel_rfl) rfl (by decide) (fun _ _ _ hL => seqB_ready hL.1) (by kernel_rfl) (by kernel_rfl) (fun _ _ _ h => h) HSC.out (.inl ⟨by kernel_rfl, by intro w hSw; rw [HSd.out] at hSw; obtain ⟨⟨a0, a1, a2, a3, al⟩, ⟨d0, d2, d3, d4, d5, dl⟩, ⟨h0, hl⟩, ⟨r0, rl⟩, ⟨v0, vl⟩, ⟨o0, ol⟩, ⟨z0, z1, z2, zl⟩, ⟨u0, ul⟩⟩ := hSw; go_simp⟩) ?_
              simp only [Act.put, List.setIfInBounds_toArray]
              refine HeadW.takeA 1 (v := .slice (some ⟨yg, 0, none⟩) bn bn) rfl (by kernel_rfl) rfl (by decide) (fun _ _ _ hL => seqB_ready hL.1) (by kernel_rfl) (by kernel_rfl) (fun _ _ _ h => h) HSC.out (.inl ⟨by kernel_rfl, by intro w hSw; rw [HSd.out] at hSw; obtain ⟨⟨a0, a1, a2, a3, al⟩, ⟨d0, d2, d3, d4, d5, dl⟩, ⟨h0, hl⟩, ⟨r0, rl⟩, ⟨v0, vl⟩, ⟨o0, ol⟩, ⟨z0, z1, z2, zl⟩, ⟨u0, ul⟩⟩ := hSw; go_simp⟩) ?_
              simp only [Act.put]
              refine HeadW.takeA 2 (v := .pointer (some ⟨gn, 0, none⟩)) rfl (by kernel_rfl) rfl (by decide) (fun _ _ _ hL => seqB_ready hL.1) (by kernel_rfl) (by kernel_rfl) (fun _ _ _ h => h) HSC.out (.inl ⟨by kernel_rfl, by intro w hSw; rw [HSd.out] at hSw; obtain ⟨⟨a0, a1, a2, a3, al⟩, ⟨d0, d2, d3, d4, d5, dl⟩, ⟨h0, hl⟩, ⟨r0, rl⟩, ⟨v0, vl⟩, ⟨o0, ol⟩, ⟨z0, z1, z2, zl⟩, ⟨u0, ul⟩⟩ := hSw; go_simp⟩) ?_
              simp only [Act.put]
              try simp only [List.getElem_toArray, List.getElem_cons_succ, List.getElem_cons_zero, List.setIfInBounds_toArray, List.set_cons_succ, List.set_cons_zero]
              refine HeadW.takeA 3 (v := .pointer (some ⟨gn, 1, none⟩)) rfl (by kernel_rfl) rfl (by decide) (fun _ _ _ hL => seqB_ready hL.1) (by kernel_rfl) (by kernel_rfl) (fun _ _ _ h => h) HSC.out (.inl ⟨by kernel_rfl, by intro w hSw; rw [HSd.out] at hSw; obtain ⟨⟨a0, a1, a2, a3, al⟩, ⟨d0, d2, d3, d4, d5, dl⟩, ⟨h0, hl⟩, ⟨r0, rl⟩, ⟨v0, vl⟩, ⟨o0, ol⟩, ⟨z0, z1, z2, zl⟩, ⟨u0, ul⟩⟩ := hSw; go_simp⟩) ?_
              simp only [Act.put]
              refine HeadW.takeA 4 (v := .int .i64 (yn : Int)) rfl (by kernel_rfl) rfl (by decide) (fun _ _ _ hL => seqB_ready hL.1) (by kernel_rfl) (by kernel_rfl) (fun _ _ _ h => h) HSC.out (.inl ⟨by kernel_rfl, by intro w hSw; rw [HSd.out] at hSw; obtain ⟨⟨a0, a1, a2, a3, al⟩, ⟨d0, d2, d3, d4, d5, dl⟩, ⟨h0, hl⟩, ⟨r0, rl⟩, ⟨v0, vl⟩, ⟨o0, ol⟩, ⟨z0, z1, z2, zl⟩, ⟨u0, ul⟩⟩ := hSw; go_simp⟩) ?_
              simp only [Act.put]
              refine HeadW.takeA 5 (v := .pointer (some ⟨yg, yn, none⟩)) rfl (by kernel_rfl) rfl (by decide) (fun _ _ _ hL => seqB_ready hL.1) (by kernel_rfl) (by kernel_rfl) (fun _ _ _ h => h) HSC.out (.inl ⟨by kernel_rfl, by intro w hSw; rw [HSd.out] at hSw; obtain ⟨⟨a0, a1, a2, a3, al⟩, ⟨d0, d2, d3, d4, d5, dl⟩, ⟨h0, hl⟩, ⟨r0, rl⟩, ⟨v0, vl⟩, ⟨o0, ol⟩, ⟨z0, z1, z2, zl⟩, ⟨u0, ul⟩⟩ := hSw; go_simp⟩) ?_
              simp only [Act.put]
              try simp only [List.getElem_toArray, List.getElem_cons_succ, List.getElem_cons_zero, List.setIfInBounds_toArray, List.set_cons_succ, List.set_cons_zero]
              refine HeadW.takeA 6 (v := .bool true) rfl (by kernel_rfl) rfl (by decide) (fun _ _ _ hL => seqB_ready hL.1) (by kernel_rfl) (by kernel_rfl) (fun _ _ _ h => h) HSC.out (.inl ⟨by kernel_rfl, by intro w hSw; rw [HSd.out] at hSw; obtain ⟨⟨a0, a1, a2, a3, al⟩, ⟨d0, d2, d3, d4, d5, dl⟩, ⟨h0, hl⟩, ⟨r0, rl⟩, ⟨v0, vl⟩, ⟨o0, ol⟩, ⟨z0, z1, z2, zl⟩, ⟨u0, ul⟩⟩ := hSw; go_simp⟩) ?_
              simp only [Act.put]
              refine HeadW.takeA 7 (v := .bool true) rfl (by kernel_rfl) rfl (by decide) (fun _ _ _ hL => seqB_ready hL.1) (by kernel_rfl) (by kernel_rfl) (fun _ _ _ h => h) HSC.out (.inl ⟨by kernel_rfl, by intro w hSw; rw [HSd.out] at hSw; obtain ⟨⟨a0, a1, a2, a3, al⟩, ⟨d0, d2, d3, d4, d5, dl⟩, ⟨h0, hl⟩, ⟨r0, rl⟩, ⟨v0, vl⟩, ⟨o0, ol⟩, ⟨z0, z1, z2, zl⟩, ⟨u0, ul⟩⟩ := hSw; go_simp⟩) ?_
              simp only [Act.put]
              refine HeadW.takeA 8 (v := .pointer (some ⟨gF, 2, none⟩)) rfl (by kernel_rfl) rfl (by decide) (fun _ _ _ hL => seqB_ready hL.1) (by kernel_rfl) (by kernel_rfl) (fun _ _ _ h => h) HSC.out (.inl ⟨by kernel_rfl, by intro w hSw; rw [HSd.out] at hSw; obtain ⟨⟨a0, a1, a2, a3, al⟩, ⟨d0, d2, d3, d4, d5, dl⟩, ⟨h0, hl⟩, ⟨r0, rl⟩, ⟨v0, vl⟩, ⟨o0, ol⟩, ⟨z0, z1, z2, zl⟩, ⟨u0, ul⟩⟩ := hSw; go_simp⟩) ?_
              simp only [Act.put]
              try simp only [List.getElem_toArray, List.getElem_cons_succ, List.getElem_cons_zero, List.setIfInBounds_toArray, List.set_cons_succ, List.set_cons_zero]
              refine HeadW.takeA 9 (v := .slice (some ⟨bl, 0, none⟩) n cL') rfl (by kernel_rfl) rfl (by decide) (fun _ _ _ hL => seqB_ready hL.1) (by kernel_rfl) (by kernel_rfl) (fun _ _ _ h => h) HSC.out (.inl ⟨by kernel_rfl, by intro w hSw; rw [HSd.out] at hSw; obtain ⟨⟨a0, a1, a2, a3, al⟩, ⟨d0, d2, d3, d4, d5, dl⟩, ⟨h0, hl⟩, ⟨r0, rl⟩, ⟨v0, vl⟩, ⟨o0, ol⟩, ⟨z0, z1, z2, zl⟩, ⟨u0, ul⟩⟩ := hSw; go_simp⟩) ?_
              simp only [Act.put]
              refine HeadW.takeA 10 (v := .pointer (some ⟨gn, 0, none⟩)) rfl (by kernel_rfl) rfl (by decide) (fun _ _ _ hL => seqB_ready hL.1) (by kernel_rfl) (by kernel_rfl) (fun _ _ _ h => h) HSC.out (.inl ⟨by kernel_rfl, by intro w hSw; rw [HSd.out] at hSw; obtain ⟨⟨a0, a1, a2, a3, al⟩, ⟨d0, d2, d3, d4, d5, dl⟩, ⟨h0, hl⟩, ⟨r0, rl⟩, ⟨v0, vl⟩, ⟨o0, ol⟩, ⟨z0, z1, z2, zl⟩, ⟨u0, ul⟩⟩ := hSw; go_simp⟩) ?_
              simp only [Act.put]
              refine HeadW.takeA 11 (v := .pointer (some ⟨gn, 0, none⟩)) rfl (by kernel_rfl) rfl (by decide) (fun _ _ _ hL => seqB_ready hL.1) (by kernel_rfl) (by kernel_rfl) (fun _ _ _ h => h) HSC.out (.inl ⟨by kernel_rfl, by intro w hSw; rw [HSd.out] at hSw; obtain ⟨⟨a0, a1, a2, a3, al⟩, ⟨d0, d2, d3, d4, d5, dl⟩, ⟨h0, hl⟩, ⟨r0, rl⟩, ⟨v0, vl⟩, ⟨o0, ol⟩, ⟨z0, z1, z2, zl⟩, ⟨u0, ul⟩⟩ := hSw; go_simp⟩) ?_
              simp only [Act.put]
              try simp only [List.getElem_toArray, List.getElem_cons_succ, List.getElem_cons_zero, List.setIfInBounds_toArray, List.set_cons_succ, List.set_cons_zero]
              refine HeadW.takeA 12 (v := .int .i64 (yf : Int)) rfl (by kernel_rfl) rfl (by decide) (fun _ _ _ hL => seqB_ready hL.1) (by kernel_rfl) (by kernel_rfl) (fun _ _ _ h => h) HSC.out (.inl ⟨by kernel_rfl, by intro w hSw; rw [HSd.out] at hSw; obtain ⟨⟨a0, a1, a2, a3, al⟩, ⟨d0, d2, d3, d4, d5, dl⟩, ⟨h0, hl⟩, ⟨r0, rl⟩, ⟨v0, vl⟩, ⟨o0, ol⟩, ⟨z0, z1, z2, zl⟩, ⟨u0, ul⟩⟩ := hSw; go_simp⟩) ?_
              simp only [Act.put]
              refine HeadW.takeA 13 (v := .pointer (some ⟨bl, yf, none⟩)) rfl (by kernel_rfl) rfl (by decide) (fun _ _ _ hL => seqB_ready hL.1) (by kernel_rfl) (by kernel_rfl) (fun _ _ _ h => h) HSC.out (.inl ⟨by kernel_rfl, by intro w hSw; rw [HSd.out] at hSw; obtain ⟨⟨a0, a1, a2, a3, al⟩, ⟨d0, d2, d3, d4, d5, dl⟩, ⟨h0, hl⟩, ⟨r0, rl⟩, ⟨v0, vl⟩, ⟨o0, ol⟩, ⟨z0, z1, z2, zl⟩, ⟨u0, ul⟩⟩ := hSw; go_simp⟩) ?_
              simp only [Act.put]
              refine HeadW.takeA 14 (v := .slice lA nl lc) rfl (by kernel_rfl) rfl (by decide) (fun _ _ _ hL => seqB_ready hL.1) (by kernel_rfl) (by kernel_rfl) (fun _ _ _ h => h) HSC.out (.inl ⟨by kernel_rfl, by intro w hSw; rw [HSd.out] at hSw; obtain ⟨⟨a0, a1, a2, a3, al⟩, ⟨d0, d2, d3, d4, d5, dl⟩, ⟨h0, hl⟩, ⟨r0, rl⟩, ⟨v0, vl⟩, ⟨o0, ol⟩, ⟨z0, z1, z2, zl⟩, ⟨u0, ul⟩⟩ := hSw; go_simp⟩) ?_
              simp only [Act.put]
              try simp only [List.getElem_toArray, List.getElem_cons_succ, List.getElem_cons_zero, List.setIfInBounds_toArray, List.set_cons_succ, List.set_cons_zero]
              refine HeadW.takeA 15 (v := .pointer (some ⟨gn, 0, none⟩)) rfl (by kernel_rfl) rfl (by decide) (fun _ _ _ hL => seqB_ready hL.1) (by kernel_rfl) (by kernel_rfl) (fun _ _ _ h => h) HSC.out (.inl ⟨by kernel_rfl, by intro w hSw; rw [HSd.out] at hSw; obtain ⟨⟨a0, a1, a2, a3, al⟩, ⟨d0, d2, d3, d4, d5, dl⟩, ⟨h0, hl⟩, ⟨r0, rl⟩, ⟨v0, vl⟩, ⟨o0, ol⟩, ⟨z0, z1, z2, zl⟩, ⟨u0, ul⟩⟩ := hSw; go_simp⟩) ?_
              simp only [Act.put]
              refine HeadW.takeA 16 (v := .pointer (some ⟨gn, 1, none⟩)) rfl (by kernel_rfl) rfl (by decide) (fun _ _ _ hL => seqB_ready hL.1) (by kernel_rfl) (by kernel_rfl) (fun _ _ _ h => h) HSC.out (.inl ⟨by kernel_rfl, by intro w hSw; rw [HSd.out] at hSw; obtain ⟨⟨a0, a1, a2, a3, al⟩, ⟨d0, d2, d3, d4, d5, dl⟩, ⟨h0, hl⟩, ⟨r0, rl⟩, ⟨v0, vl⟩, ⟨o0, ol⟩, ⟨z0, z1, z2, zl⟩, ⟨u0, ul⟩⟩ := hSw; go_simp⟩) ?_
              simp only [Act.put]
              refine HeadW.takeA 17 (v := .int .i64 (yn : Int)) rfl (by kernel_rfl) rfl (by decide) (fun _ _ _ hL => seqB_ready hL.1) (by kernel_rfl) (by kernel_rfl) (fun _ _ _ h => h) HSC.out (.inl ⟨by kernel_rfl, by intro w hSw; rw [HSd.out] at hSw; obtain ⟨⟨a0, a1, a2, a3, al⟩, ⟨d0, d2, d3, d4, d5, dl⟩, ⟨h0, hl⟩, ⟨r0, rl⟩, ⟨v0, vl⟩, ⟨o0, ol⟩, ⟨z0, z1, z2, zl⟩, ⟨u0, ul⟩⟩ := hSw; go_simp⟩) ?_
              simp only [Act.put]
              try simp only [List.getElem_toArray, List.getElem_cons_succ, List.getElem_cons_zero, List.setIfInBounds_toArray, List.set_cons_succ, List.set_cons_zero]
              try simp only [List.getElem_toArray, List.getElem_cons_succ, List.getElem_cons_zero, List.setIfInBounds_toArray, List.set_cons_succ, List.set_cons_zero]
              refine headW_one 18 rfl (by decide) (by kernel_rfl) (by kernel_rfl) fun K' hK' => ?_
              go_simp
              refine HHas.out.mono ?_
              rintro e w9 ⟨rfl, hb9⟩
              have hb89 : Below w8.heap.size w8 w9 := (Below.refl _ w8).drew.trans hb9
              have HB89 := Lib.hid hb89
              have hSC9 : SC w9 := by
                have h := HSC.out
                rw [HSd.out] at h ⊢
                obtain ⟨⟨a0, a1, a2, a3, al⟩, ⟨d0, d2, d3, d4, d5, dl⟩, ⟨h0, hl⟩, ⟨r0, rl⟩, ⟨v0, vl⟩, ⟨o0, ol⟩, ⟨z0, z1, z2, zl⟩, ⟨u0, ul⟩⟩ := h
                obtain ⟨hc, -⟩ := bcell hb89
                have hz := hb89.size
                exact ⟨⟨(hc _ _ al).trans a0, (hc _ _ al).trans a1, (hc _ _ al).trans a2, (hc _ _ al).trans a3, by omega⟩, ⟨(hc _ _ dl).trans d0, (hc _ _ dl).trans d2, (hc _ _ dl).trans d3, (hc _ _ dl).trans d4, (hc _ _ dl).trans d5, by omega⟩, ⟨(hc _ _ hl).trans h0, by omega⟩, ⟨(hc _ _ rl).trans r0, by omega⟩, ⟨(hc _ _ vl).trans v0, by omega⟩, ⟨(hc _ _ ol).trans o0, by omega⟩, ⟨(hc _ _ zl).trans z0, (hc _ _ zl).trans z1, (hc _ _ zl).trans z2, by omega⟩, ⟨(hc _ _ ul).trans u0, by omega⟩⟩
              refine hK'.out _ _ hSC9 (fun hHeld => ?_)
              clear hK' K' hHeld hb9 hb89
              refine HeadW.takeA 19 (v := .bool false) rfl (by kernel_rfl) rfl (by decide) (fun _ _ _ hL => seqB_ready hL.1) (by kernel_rfl) (by kernel_rfl) (fun _ _ _ h => h) hSC9 (.inl ⟨by kernel_rfl, by intro w hSw; rw [HSd.out] at hSw; obtain ⟨⟨a0, a1, a2, a3, al⟩, ⟨d0, d2, d3, d4, d5, dl⟩, ⟨h0, hl⟩, ⟨r0, rl⟩, ⟨v0, vl⟩, ⟨o0, ol⟩, ⟨z0, z1, z2, zl⟩, ⟨u0, ul⟩⟩ := hSw; go_simp⟩) ?_
              simp only [Act.put]
              refine HeadW.takeA 20 (v := .bool false) rfl (by kernel_rfl) rfl (by decide) (fun _ _ _ hL => seqB_ready hL.1) (by kernel_rfl) (by kernel_rfl) (fun _ _ _ h => h) hSC9 (.inl ⟨by kernel_rfl, by intro w hSw; rw [HSd.out] at hSw; obtain ⟨⟨a0, a1, a2, a3, al⟩, ⟨d0, d2, d3, d4, d5, dl⟩, ⟨h0, hl⟩, ⟨r0, rl⟩, ⟨v0, vl⟩, ⟨o0, ol⟩, ⟨z0, z1, z2, zl⟩, ⟨u0, ul⟩⟩ := hSw; go_simp⟩) ?_
              simp only [Act.put]
              try simp only [List.getElem_toArray, List.getElem_cons_succ, List.getElem_cons_zero, List.setIfInBounds_toArray, List.set_cons_succ, List.set_cons_zero]
              refine fun hInv => ⟨by kernel_rfl, ?_⟩
              clear hInv
              simp only [List.drop_succ_cons, List.drop_zero]
              clear HSC HSd hSC9
              clear SC
              go_wp2_with fail
              go_meet
              case rel => exact ⟨rfl, HB89.out⟩
          case rest =>
          rename World => w9
          obtain ⟨rfl, hb89⟩ := hcut
          have hN9 := HN8.out.below hb89 HN8.out.lt
          have n1 : w9.cell? ⟨gn, 1, none⟩ = some (.int .i64 (yn : Int)) := hN9.cell 1
          have n3 : w9.cell? ⟨gn, 3, none⟩ = some (.slice (some ⟨yg, 0, none⟩) bn bn) := hN9.cell 3
          have nl' := hN9.lt
          have hBe9 := HBe8.out.below hb89
          have hB49 := HB48.out.trans (hb89.mono HB48.out.size)
          have hO9 := Own.below HO8.out hb89 (Nat.le_refl _)
          have hyB := hBe9.own y (List.mem_of_getElem? HyL.out)
          have hyg := (hBe9.lt y (List.mem_of_getElem? HyL.out)).1
          rw [← HyE.out.2.2.2.1, ← HyE.out.2.2.2.2] at hyB
          rw [← HyE.out.2.2.2.1] at hyg
          have hynl : yn < y.x.been.length := by rw [← HyE.out.2.2.2.2]; exact Hbl.out.2.1
          have u0 := OwnL.at_ hyB yn hynl
          obtain ⟨uf9, ul⟩ := OwnL.room hyB yn hynl
          obtain ⟨vv, u0'⟩ : ∃ v, w9.cell? ⟨yg, yn, none⟩ = some v := ⟨_, u0⟩
          clear u0
          obtain ⟨w10, hw10⟩ : ∃ w', w' = w9.setCell ⟨yg, yn, none⟩ (.bool true) := ⟨_, rfl⟩
          have hOy : Only (fun b => b = yg) w9 w10 := by rw [hw10]; exact (Only.refl (fun b => b = yg) w9).setCell (p := ⟨yg, yn, none⟩) (.inl rfl) _
          have HBe10 := Lib.hid (show BeenM w10 w4.heap.size (r.reverse ++ [(⟨⟨yf, yn, yh, y.x.been.set yn true⟩, yg⟩ : FrM)]) from by
            have h1 := hBe9
            rw [HW.out.2.rev] at h1
            have h2 := h1.mark yn ⟨yf, yn, yh, y.x.been.set yn true⟩ rfl
            rw [← HyE.out.2.2.2.1, ← hw10] at h2
            exact h2)
          have hB410 : Below w4.heap.size w4 w10 := hB49.trans (hOy.below (B := w4.heap.size) hB49.size fun b hb e => by omega)
          have HO10 := Lib.hid (Own.only hO9 hOy fun b o e e2 => own_ne hO9 hyB (by decide) b (by rw [e]; rfl) (by rw [e2]; rfl))
          have HN10 := Lib.hid (hN9.only hOy (fun e => own_blk_ne hyB hN9 (by decide) yg rfl e.symm))
          have HB410 := Lib.hid hB410
          have Hw10 := Lib.hid hw10
          have Hyg := Lib.hid hyg
          clear hN9 hBe9 hB49 hO9 hyB hyg hynl hw10 hOy hB410 hb89 u0w uf ulw hSw8 HB48 HBe8 HO8 HSw8 HN8 Hlr8
          go_upto_if 168 with (fail)
          try rw [← Hw10.out]
          clear Hw10 n1 n3 nl' u0' uf9 ul
          go_cut [168] from 147 to 215 (fun s wx => s = .bool false ∧ Below w10.heap.size w10 wx)
          case first =>
            as_aux_lemma =>
            have hF10 := HF4.out.below HB410.out HF4.out.lt
            have hX10 := HX4.out.below HB410.out HX4.out.lt
            have hSw10 : (fun w' => (w'.cell? ⟨gF, 4, none⟩ = some (.int .i64 ce) ∧ w'.cell? ⟨gF, 5, none⟩ = some (.int .i64 co) ∧ gF < w'.heap.size) ∧ (w'.cell? ⟨gx, 0, none⟩ = some (.int .i64 p.mem) ∧ w'.cell? ⟨gx, 1, none⟩ = some (.slice p.AD p.data.length p.cD) ∧ w'.cell? ⟨gx, 2, none⟩ = some (.slice p.AF n p.cF) ∧ gx < w'.heap.size)) w10 := ⟨⟨hF10.cell 4, hF10.cell 5, hF10.lt⟩, ⟨hX10.cell 0, hX10.cell 1, by rw [Hn.out]; exact hX10.cell 2, hX10.lt⟩⟩
            clear hF10 hX10
            have hcst : 0 ≤ co → (d : Int) < co := fun h => HW.out.2.steps h
            by_cases hco : 0 ≤ co
            · have hco2 : ¬ co ≤ (d : Int) := by have := hcst hco; omega
              clear hcst
              by_cases hce : 0 ≤ ce
              · have hsm := HW.out.2.cells Hok.out hce
                have hnb := HW.out.2.bnds Hok.out
                have HCe := Lib.hid (cells13_any p (some ⟨gl, 0, none⟩) cL L w10.drew ((HP4.out.below HB410.out).below ((Below.refl _ w10).drew)) ((RV.of_own HO10.out).below ((Below.refl _ w10).drew)) (by rw [HW.out.1]; omega) (fun z hz => by
                  obtain ⟨h1, h2⟩ := hnb z hz
                  exact ⟨by rw [← Hn.out, ← Hlen.out.2.2.2]; exact h1, h2⟩))
                rw [HW.out.1, Hpv.out] at HCe
                obtain ⟨SM, hSM⟩ : ∃ x, x = sumM p.plain L := ⟨_, rfl⟩
                rw [← hSM] at HCe hsm
                have hsm2 : ¬ ce < SM := by omega
                clear hnb hSM hsm
                go_upto_region 20 with (fail)
                obtain ⟨SC, hSCd⟩ : ∃ S : World → Prop, S = fun w' => (w'.cell? ⟨gF, 4, none⟩ = some (.int .i64 ce) ∧ w'.cell? ⟨gF, 5, none⟩ = some (.int .i64 co) ∧ gF < w'.heap.size) ∧ (w'.cell? ⟨gx, 0, none⟩ = some (.int .i64 p.mem) ∧ w'.cell? ⟨gx, 1, none⟩ = some (.slice p.AD p.data.length p.cD) ∧ w'.cell? ⟨gx, 2, none⟩ = some (.slice p.AF n p.cF) ∧ gx < w'.heap.size) := ⟨_, rfl⟩
                have hSC : SC w10.drew := by rw [hSCd]; exact hSw10
                have HSC := Lib.hid (show SC w10.drew from hSC)
                have HSd := Lib.hid hSCd
                clear hSC hSCd
                refine region_heldT 22 SC (by kernel_rfl) (by decide) ?_
                refine HeadW.takeA 0 (v := .pointer (some ⟨gF, 5, none⟩)) rfl (by kernel_rfl) rfl (by decide) (fun _ _ _ hL => seqB_ready hL.1) (by kernel_rfl) (by kernel_rfl) (fun _ _ _ h => h) HSC.out (.inl ⟨by kernel_rfl, by intro w hSw; rw [HSd.out] at hSw; obtain ⟨⟨d4, d5, dl⟩, ⟨z0, z1, z2, zl⟩⟩ := hSw; go_simp⟩) ?_
                simp only [Act.put, List.setIfInBounds_toArray]
                refine HeadW.takeA 1 (v := .int .i64 co) rfl (by kernel_rfl) rfl (by decide) (fun _ _ _ hL => seqB_ready hL.1) (by kernel_rfl) (by kernel_rfl) (fun _ _ _ h => h) HSC.out (.inl ⟨by kernel_rfl, by intro w hSw; rw [HSd.out] at hSw; obtain ⟨⟨d4, d5, dl⟩, ⟨z0, z1, z2, zl⟩⟩ := hSw; go_simp⟩) ?_
                simp only [Act.put]
                refine HeadW.takeA 2 (v := .bool true) rfl (by kernel_rfl) rfl (by decide) (fun _ _ _ hL => seqB_ready hL.1) (by kernel_rfl) (by kernel_rfl) (fun _ _ _ h => h) HSC.out (.inl ⟨by kernel_rfl, by intro w hSw; rw [HSd.out] at hSw; obtain ⟨⟨d4, d5, dl⟩, ⟨z0, z1, z2, zl⟩⟩ := hSw; go_simp⟩) ?_
                simp only [Act.put]
                try simp only [List.getElem_toArray, List.getElem_cons_succ, List.getElem_cons_zero, List.setIfInBounds_toArray, List.set_cons_succ, List.set_cons_zero]
                refine HeadW.takeA 3 (v := .bool true) rfl (by kernel_rfl) rfl (by decide) (fun _ _ _ hL => seqB_ready hL.1) (by kernel_rfl) (by kernel_rfl) (fun _ _ _ h => h) HSC.out (.inl ⟨by kernel_rfl, by intro w hSw; rw [HSd.out] at hSw; obtain ⟨⟨d4, d5, dl⟩, ⟨z0, z1, z2, zl⟩⟩ := hSw; go_simp⟩) ?_
                simp only [Act.put]
                refine HeadW.takeA 4 (v := .int .i64 (d : Int)) rfl (by kernel_rfl) rfl (by decide) (fun _ _ _ hL => seqB_ready hL.1) (by kernel_rfl) (by kernel_rfl) (fun _ _ _ h => h) HSC.out (.inl ⟨by kernel_rfl, by intro w hSw; rw [HSd.out] at hSw; obtain ⟨⟨d4, d5, dl⟩, ⟨z0, z1, z2, zl⟩⟩ := hSw; go_simp⟩) ?_
                simp only [Act.put]
                refine HeadW.takeA 5 (v := .pointer (some ⟨gF, 5, none⟩)) rfl (by kernel_rfl) rfl (by decide) (fun _ _ _ hL => seqB_ready hL.1) (by kernel_rfl) (by kernel_rfl) (fun _ _ _ h => h) HSC.out (.inl ⟨by kernel_rfl, by intro w hSw; rw [HSd.out] at hSw; obtain ⟨⟨d4, d5, dl⟩, ⟨z0, z1, z2, zl⟩⟩ := hSw; go_simp⟩) ?_
                simp only [Act.put]
                try simp only [List.getElem_toArray, List.getElem_cons_succ, List.getElem_cons_zero, List.setIfInBounds_toArray, List.set_cons_succ, List.set_cons_zero]
                refine HeadW.takeA 6 (v := .int .i64 co) rfl (by kernel_rfl) rfl (by decide) (fun _ _ _ hL => seqB_ready hL.1) (by kernel_rfl) (by kernel_rfl) (fun _ _ _ h => h) HSC.out (.inl ⟨by kernel_rfl, by intro w hSw; rw [HSd.out] at hSw; obtain ⟨⟨d4, d5, dl⟩, ⟨z0, z1, z2, zl⟩⟩ := hSw; go_simp⟩) ?_
                simp only [Act.put]
                refine HeadW.takeA 7 (v := .bool false) rfl (by kernel_rfl) rfl (by decide) (fun _ _ _ hL => seqB_ready hL.1) (by kernel_rfl) (by kernel_rfl) (fun _ _ _ h => h) HSC.out (.inl ⟨by kernel_rfl, by intro w hSw; rw [HSd.out] at hSw; obtain ⟨⟨d4, d5, dl⟩, ⟨z0, z1, z2, zl⟩⟩ := hSw; go_simp⟩) ?_
                simp only [Act.put]
                refine HeadW.takeA 8 (v := .bool false) rfl (by kernel_rfl) rfl (by decide) (fun _ _ _ hL => seqB_ready hL.1) (by kernel_rfl) (by kernel_rfl) (fun _ _ _ h => h) HSC.out (.inl ⟨by kernel_rfl, by intro w hSw; rw [HSd.out] at hSw; obtain ⟨⟨d4, d5, dl⟩, ⟨z0, z1, z2, zl⟩⟩ := hSw; go_simp⟩) ?_
                simp only [Act.put]
                try simp only [List.getElem_toArray, List.getElem_cons_succ, List.getElem_cons_zero, List.setIfInBounds_toArray, List.set_cons_succ, List.set_cons_zero]
                refine HeadW.takeA 9 (v := .bool false) rfl (by kernel_rfl) rfl (by decide) (fun _ _ _ hL => seqB_ready hL.1) (by kernel_rfl) (by kernel_rfl) (fun _ _ _ h => h) HSC.out (.inl ⟨by kernel_rfl, by intro w hSw; rw [HSd.out] at hSw; obtain ⟨⟨d4, d5, dl⟩, ⟨z0, z1, z2, zl⟩⟩ := hSw; go_simp⟩) ?_
                simp only [Act.put]
                refine HeadW.takeA 10 (v := .pointer (some ⟨gF, 4, none⟩)) rfl (by kernel_rfl) rfl (by decide) (fun _ _ _ hL => seqB_ready hL.1) (by kernel_rfl) (by kernel_rfl) (fun _ _ _ h => h) HSC.out (.inl ⟨by kernel_rfl, by intro w hSw; rw [HSd.out] at hSw; obtain ⟨⟨d4, d5, dl⟩, ⟨z0, z1, z2, zl⟩⟩ := hSw; go_simp⟩) ?_
                simp only [Act.put]
                refine HeadW.takeA 11 (v := .int .i64 ce) rfl (by kernel_rfl) rfl (by decide) (fun _ _ _ hL => seqB_ready hL.1) (by kernel_rfl) (by kernel_rfl) (fun _ _ _ h => h) HSC.out (.inl ⟨by kernel_rfl, by intro w hSw; rw [HSd.out] at hSw; obtain ⟨⟨d4, d5, dl⟩, ⟨z0, z1, z2, zl⟩⟩ := hSw; go_simp⟩) ?_
                simp only [Act.put]
                try simp only [List.getElem_toArray, List.getElem_cons_succ, List.getElem_cons_zero, List.setIfInBounds_toArray, List.set_cons_succ, List.set_cons_zero]
                refine HeadW.takeA 12 (v := .bool true) rfl (by kernel_rfl) rfl (by decide) (fun _ _ _ hL => seqB_ready hL.1) (by kernel_rfl) (by kernel_rfl) (fun _ _ _ h => h) HSC.out (.inl ⟨by kernel_rfl, by intro w hSw; rw [HSd.out] at hSw; obtain ⟨⟨d4, d5, dl⟩, ⟨z0, z1, z2, zl⟩⟩ := hSw; go_simp⟩) ?_
                simp only [Act.put]
                refine HeadW.takeA 13 (v := .bool true) rfl (by kernel_rfl) rfl (by decide) (fun _ _ _ hL => seqB_ready hL.1) (by kernel_rfl) (by kernel_rfl) (fun _ _ _ h => h) HSC.out (.inl ⟨by kernel_rfl, by intro w hSw; rw [HSd.out] at hSw; obtain ⟨⟨d4, d5, dl⟩, ⟨z0, z1, z2, zl⟩⟩ := hSw; go_simp⟩) ?_
                simp only [Act.put]
                refine HeadW.takeA 14 (v := .agg #[.int .i64 p.mem, .slice p.AD p.data.length p.cD, .slice p.AF n p.cF]) rfl (by kernel_rfl) rfl (by decide) (fun _ _ _ hL => seqB_ready hL.1) (by kernel_rfl) (by kernel_rfl) (fun _ _ _ h => h) HSC.out (.inl ⟨by kernel_rfl, by intro w hSw; rw [HSd.out] at hSw; obtain ⟨⟨d4, d5, dl⟩, ⟨z0, z1, z2, zl⟩⟩ := hSw; go_simp⟩) ?_
                simp only [Act.put]
                try simp only [List.getElem_toArray, List.getElem_cons_succ, List.getElem_cons_zero, List.setIfInBounds_toArray, List.set_cons_succ, List.set_cons_zero]
                refine HeadW.takeA 15 (v := .slice (some ⟨gl, 0, none⟩) (K + 1) cL) rfl (by kernel_rfl) rfl (by decide) (fun _ _ _ hL => seqB_ready hL.1) (by kernel_rfl) (by kernel_rfl) (fun _ _ _ h => h) HSC.out (.inl ⟨by kernel_rfl, by intro w hSw; rw [HSd.out] at hSw; obtain ⟨⟨d4, d5, dl⟩, ⟨z0, z1, z2, zl⟩⟩ := hSw; go_simp⟩) ?_
                simp only [Act.put]
                refine HeadW.takeA 17 (v := .pointer (some ⟨gF, 4, none⟩)) rfl (by kernel_rfl) rfl (by decide) (fun _ _ _ hL => seqB_ready hL.1) (by kernel_rfl) (by kernel_rfl) (fun _ _ _ h => h) HSC.out (.inl ⟨by kernel_rfl, by intro w hSw; rw [HSd.out] at hSw; obtain ⟨⟨d4, d5, dl⟩, ⟨z0, z1, z2, zl⟩⟩ := hSw; go_simp⟩) ?_
                simp only [Act.put]
                refine HeadW.takeA 18 (v := .int .i64 ce) rfl (by kernel_rfl) rfl (by decide) (fun _ _ _ hL => seqB_ready hL.1) (by kernel_rfl) (by kernel_rfl) (fun _ _ _ h => h) HSC.out (.inl ⟨by kernel_rfl, by intro w hSw; rw [HSd.out] at hSw; obtain ⟨⟨d4, d5, dl⟩, ⟨z0, z1, z2, zl⟩⟩ := hSw; go_simp⟩) ?_
                simp only [Act.put]
                try simp only [List.getElem_toArray, List.getElem_cons_succ, List.getElem_cons_zero, List.setIfInBounds_toArray, List.set_cons_succ, List.set_cons_zero]
                try simp only [List.getElem_toArray, List.getElem_cons_succ, List.getElem_cons_zero, List.setIfInBounds_toArray, List.set_cons_succ, List.set_cons_zero]
                refine headW_one 16 rfl (by decide) (by kernel_rfl) (by kernel_rfl) fun K' hK' => ?_
                go_simp
                refine HCe.out.mono ?_
                rintro e w11 ⟨rfl, hb11⟩
                have hb1011 : Below w10.heap.size w10 w11 := (Below.refl _ w10).drew.trans hb11
                have HBx := Lib.hid hb1011
                have hSC11 : SC w11 := by
                  have h := HSC.out
                  rw [HSd.out] at h ⊢
                  obtain ⟨⟨d4, d5, dl⟩, ⟨z0, z1, z2, zl⟩⟩ := h
                  obtain ⟨hc, -⟩ := bcell hb1011
                  have hz := hb1011.size
                  exact ⟨⟨(hc _ _ dl).trans d4, (hc _ _ dl).trans d5, by omega⟩, ⟨(hc _ _ zl).trans z0, (hc _ _ zl).trans z1, (hc _ _ zl).trans z2, by omega⟩⟩
                refine hK'.out _ _ hSC11 (fun hHeld => ?_)
                clear hK' K' hHeld hb11 hb1011
                refine HeadW.takeA 19 (v := .bool false) rfl (by kernel_rfl) rfl (by decide) (fun _ _ _ hL => seqB_ready hL.1) (by kernel_rfl) (by kernel_rfl) (fun _ _ _ h => h) hSC11 (.inl ⟨by kernel_rfl, by intro w hSw; rw [HSd.out] at hSw; obtain ⟨⟨d4, d5, dl⟩, ⟨z0, z1, z2, zl⟩⟩ := hSw; go_simp⟩) ?_
                simp only [Act.put]
                refine HeadW.takeA 20 (v := .bool false) rfl (by kernel_rfl) rfl (by decide) (fun _ _ _ hL => seqB_ready hL.1) (by kernel_rfl) (by kernel_rfl) (fun _ _ _ h => h) hSC11 (.inl ⟨by kernel_rfl, by intro w hSw; rw [HSd.out] at hSw; obtain ⟨⟨d4, d5, dl⟩, ⟨z0, z1, z2, zl⟩⟩ := hSw; go_simp⟩) ?_
                simp only [Act.put]
                refine HeadW.takeA 21 (v := .bool false) rfl (by kernel_rfl) rfl (by decide) (fun _ _ _ hL => seqB_ready hL.1) (by kernel_rfl) (by kernel_rfl) (fun _ _ _ h => h) hSC11 (.inl ⟨by kernel_rfl, by intro w hSw; rw [HSd.out] at hSw; obtain ⟨⟨d4, d5, dl⟩, ⟨z0, z1, z2, zl⟩⟩ := hSw; go_simp⟩) ?_
                simp only [Act.put]
                try simp only [List.getElem_toArray, List.getElem_cons_succ, List.getElem_cons_zero, List.setIfInBounds_toArray, List.set_cons_succ, List.set_cons_zero]
                try simp only [List.getElem_toArray, List.getElem_cons_succ, List.getElem_cons_zero, List.setIfInBounds_toArray, List.set_cons_succ, List.set_cons_zero]
                refine fun hInv => ⟨by kernel_rfl, ?_⟩
                clear hInv
                simp only [List.drop_succ_cons, List.drop_zero]
                clear HSC HSd hSC11
                clear SC
                go_wp2_with fail
                go_meet
                case rel => exact ⟨rfl, HBx.out⟩
              · go_upto_region 20 with (fail)
                obtain ⟨SC, hSCd⟩ : ∃ S : World → Prop, S = fun w' => (w'.cell? ⟨gF, 4, none⟩ = some (.int .i64 ce) ∧ w'.cell? ⟨gF, 5, none⟩ = some (.int .i64 co) ∧ gF < w'.heap.size) ∧ (w'.cell? ⟨gx, 0, none⟩ = some (.int .i64 p.mem) ∧ w'.cell? ⟨gx, 1, none⟩ = some (.slice p.AD p.data.length p.cD) ∧ w'.cell? ⟨gx, 2, none⟩ = some (.slice p.AF n p.cF) ∧ gx < w'.heap.size) := ⟨_, rfl⟩
                have hSC : SC w10.drew := by rw [hSCd]; exact hSw10
                have HSC := Lib.hid (show SC w10.drew from hSC)
                have HSd := Lib.hid hSCd
                clear hSC hSCd
                refine region_heldT 22 SC (by kernel_rfl) (by decide) ?_
                refine HeadW.takeA 0 (v := .pointer (some ⟨gF, 5, none⟩)) rfl (by kernel_rfl) rfl (by decide) (fun _ _ _ hL => seqB_ready hL.1) (by kernel_rfl) (by kernel_rfl) (fun _ _ _ h => h) HSC.out (.inl ⟨by kernel_rfl, by intro w hSw; rw [HSd.out] at hSw; obtain ⟨⟨d4, d5, dl⟩, ⟨z0, z1, z2, zl⟩⟩ := hSw; go_simp⟩) ?_
                simp only [Act.put, List.setIfInBounds_toArray]
                refine HeadW.takeA 1 (v := .int .i64 co) rfl (by kernel_rfl) rfl (by decide) (fun _ _ _ hL => seqB_ready hL.1) (by kernel_rfl) (by kernel_rfl) (fun _ _ _ h => h) HSC.out (.inl ⟨by kernel_rfl, by intro w hSw; rw [HSd.out] at hSw; obtain ⟨⟨d4, d5, dl⟩, ⟨z0, z1, z2, zl⟩⟩ := hSw; go_simp⟩) ?_
                simp only [Act.put]
                refine HeadW.takeA 2 (v := .bool true) rfl (by kernel_rfl) rfl (by decide) (fun _ _ _ hL => seqB_ready hL.1) (by kernel_rfl) (by kernel_rfl) (fun _ _ _ h => h) HSC.out (.inl ⟨by kernel_rfl, by intro w hSw; rw [HSd.out] at hSw; obtain ⟨⟨d4, d5, dl⟩, ⟨z0, z1, z2, zl⟩⟩ := hSw; go_simp⟩) ?_
                simp only [Act.put]
                try simp only [List.getElem_toArray, List.getElem_cons_succ, List.getElem_cons_zero, List.setIfInBounds_toArray, List.set_cons_succ, List.set_cons_zero]
                refine HeadW.takeA 3 (v := .bool true) rfl (by kernel_rfl) rfl (by decide) (fun _ _ _ hL => seqB_ready hL.1) (by kernel_rfl) (by kernel_rfl) (fun _ _ _ h => h) HSC.out (.inl ⟨by kernel_rfl, by intro w hSw; rw [HSd.out] at hSw; obtain ⟨⟨d4, d5, dl⟩, ⟨z0, z1, z2, zl⟩⟩ := hSw; go_simp⟩) ?_
                simp only [Act.put]
                refine HeadW.takeA 4 (v := .int .i64 (d : Int)) rfl (by kernel_rfl) rfl (by decide) (fun _ _ _ hL => seqB_ready hL.1) (by kernel_rfl) (by kernel_rfl) (fun _ _ _ h => h) HSC.out (.inl ⟨by kernel_rfl, by intro w hSw; rw [HSd.out] at hSw; obtain ⟨⟨d4, d5, dl⟩, ⟨z0, z1, z2, zl⟩⟩ := hSw; go_simp⟩) ?_
                simp only [Act.put]
                refine HeadW.takeA 5 (v := .pointer (some ⟨gF, 5, none⟩)) rfl (by kernel_rfl) rfl (by decide) (fun _ _ _ hL => seqB_ready hL.1) (by kernel_rfl) (by kernel_rfl) (fun _ _ _ h => h) HSC.out (.inl ⟨by kernel_rfl, by intro w hSw; rw [HSd.out] at hSw; obtain ⟨⟨d4, d5, dl⟩, ⟨z0, z1, z2, zl⟩⟩ := hSw; go_simp⟩) ?_
                simp only [Act.put]
                try simp only [List.getElem_toArray, List.getElem_cons_succ, List.getElem_cons_zero, List.setIfInBounds_toArray, List.set_cons_succ, List.set_cons_zero]
                refine HeadW.takeA 6 (v := .int .i64 co) rfl (by kernel_rfl) rfl (by decide) (fun _ _ _ hL => seqB_ready hL.1) (by kernel_rfl) (by kernel_rfl) (fun _ _ _ h => h) HSC.out (.inl ⟨by kernel_rfl, by intro w hSw; rw [HSd.out] at hSw; obtain ⟨⟨d4, d5, dl⟩, ⟨z0, z1, z2, zl⟩⟩ := hSw; go_simp⟩) ?_
                simp only [Act.put]
                refine HeadW.takeA 7 (v := .bool false) rfl (by kernel_rfl) rfl (by decide) (fun _ _ _ hL => seqB_ready hL.1) (by kernel_rfl) (by kernel_rfl) (fun _ _ _ h => h) HSC.out (.inl ⟨by kernel_rfl, by intro w hSw; rw [HSd.out] at hSw; obtain ⟨⟨d4, d5, dl⟩, ⟨z0, z1, z2, zl⟩⟩ := hSw; go_simp⟩) ?_
                simp only [Act.put]
                refine HeadW.takeA 8 (v := .bool false) rfl (by kernel_rfl) rfl (by decide) (fun _ _ _ hL => seqB_ready hL.1) (by kernel_rfl) (by kernel_rfl) (fun _ _ _ h => h) HSC.out (.inl ⟨by kernel_rfl, by intro w hSw; rw [HSd.out] at hSw; obtain ⟨⟨d4, d5, dl⟩, ⟨z0, z1, z2, zl⟩⟩ := hSw; go_simp⟩) ?_
                simp only [Act.put]
                try simp only [List.getElem_toArray, List.getElem_cons_succ, List.getElem_cons_zero, List.setIfInBounds_toArray, List.set_cons_succ, List.set_cons_zero]
                refine HeadW.takeA 9 (v := .bool false) rfl (by kernel_rfl) rfl (by decide) (fun _ _ _ hL => seqB_ready hL.1) (by kernel_rfl) (by kernel_rfl) (fun _ _ _ h => h) HSC.out (.inl ⟨by kernel_rfl, by intro w hSw; rw [HSd.out] at hSw; obtain ⟨⟨d4, d5, dl⟩, ⟨z0, z1, z2, zl⟩⟩ := hSw; go_simp⟩) ?_
                simp only [Act.put]
                refine HeadW.takeA 10 (v := .pointer (some ⟨gF, 4, none⟩)) rfl (by kernel_rfl) rfl (by decide) (fun _ _ _ hL => seqB_ready hL.1) (by kernel_rfl) (by kernel_rfl) (fun _ _ _ h => h) HSC.out (.inl ⟨by kernel_rfl, by intro w hSw; rw [HSd.out] at hSw; obtain ⟨⟨d4, d5, dl⟩, ⟨z0, z1, z2, zl⟩⟩ := hSw; go_simp⟩) ?_
                simp only [Act.put]
                refine HeadW.takeA 11 (v := .int .i64 ce) rfl (by kernel_rfl) rfl (by decide) (fun _ _ _ hL => seqB_ready hL.1) (by kernel_rfl) (by kernel_rfl) (fun _ _ _ h => h) HSC.out (.inl ⟨by kernel_rfl, by intro w hSw; rw [HSd.out] at hSw; obtain ⟨⟨d4, d5, dl⟩, ⟨z0, z1, z2, zl⟩⟩ := hSw; go_simp⟩) ?_
                simp only [Act.put]
                try simp only [List.getElem_toArray, List.getElem_cons_succ, List.getElem_cons_zero, List.setIfInBounds_toArray, List.set_cons_succ, List.set_cons_zero]
                refine HeadW.takeA 12 (v := .bool false) rfl (by kernel_rfl) rfl (by decide) (fun _ _ _ hL => seqB_ready hL.1) (by kernel_rfl) (by kernel_rfl) (fun _ _ _ h => h) HSC.out (.inl ⟨by kernel_rfl, by intro w hSw; rw [HSd.out] at hSw; obtain ⟨⟨d4, d5, dl⟩, ⟨z0, z1, z2, zl⟩⟩ := hSw; go_simp⟩) ?_
                simp only [Act.put]
                refine HeadW.takeA 13 (v := .bool false) rfl (by kernel_rfl) rfl (by decide) (fun _ _ _ hL => seqB_ready hL.1) (by kernel_rfl) (by kernel_rfl) (fun _ _ _ h => h) HSC.out (.inl ⟨by kernel_rfl, by intro w hSw; rw [HSd.out] at hSw; obtain ⟨⟨d4, d5, dl⟩, ⟨z0, z1, z2, zl⟩⟩ := hSw; go_simp⟩) ?_
                simp only [Act.put]
                refine HeadW.takeA 14 (v := undef) rfl (by kernel_rfl) rfl (by decide) (fun _ _ _ hL => seqB_ready hL.1) (by kernel_rfl) (by kernel_rfl) (fun _ _ _ h => h) HSC.out (.inr ⟨by kernel_rfl, rfl⟩) ?_
                simp only [Act.put]
                try simp only [List.getElem_toArray, List.getElem_cons_succ, List.getElem_cons_zero, List.setIfInBounds_toArray, List.set_cons_succ, List.set_cons_zero]
                refine HeadW.takeA 15 (v := undef) rfl (by kernel_rfl) rfl (by decide) (fun _ _ _ hL => seqB_ready hL.1) (by kernel_rfl) (by kernel_rfl) (fun _ _ _ h => h) HSC.out (.inr ⟨by kernel_rfl, rfl⟩) ?_
                simp only [Act.put]
                refine HeadW.takeA 16 (v := undef) rfl (by kernel_rfl) rfl (by decide) (fun _ _ _ hL => seqB_ready hL.1) (by kernel_rfl) (by kernel_rfl) (fun _ _ _ h => h) HSC.out (.inr ⟨by kernel_rfl, rfl⟩) ?_
                simp only [Act.put]
                refine HeadW.takeA 17 (v := undef) rfl (by kernel_rfl) rfl (by decide) (fun _ _ _ hL => seqB_ready hL.1) (by kernel_rfl) (by kernel_rfl) (fun _ _ _ h => h) HSC.out (.inr ⟨by kernel_rfl, rfl⟩) ?_
                simp only [Act.put]
                try simp only [List.getElem_toArray, List.getElem_cons_succ, List.getElem_cons_zero, List.setIfInBounds_toArray, List.set_cons_succ, List.set_cons_zero]
                refine HeadW.takeA 18 (v := undef) rfl (by kernel_rfl) rfl (by decide) (fun _ _ _ hL => seqB_ready hL.1) (by kernel_rfl) (by kernel_rfl) (fun _ _ _ h => h) HSC.out (.inr ⟨by kernel_rfl, rfl⟩) ?_
                simp only [Act.put]
                refine HeadW.takeA 19 (v := undef) rfl (by kernel_rfl) rfl (by decide) (fun _ _ _ hL => seqB_ready hL.1) (by kernel_rfl) (by kernel_rfl) (fun _ _ _ h => h) HSC.out (.inr ⟨by kernel_rfl, rfl⟩) ?_
                simp only [Act.put]
                refine HeadW.takeA 20 (v := .bool false) rfl (by kernel_rfl) rfl (by decide) (fun _ _ _ hL => seqB_ready hL.1) (by kernel_rfl) (by kernel_rfl) (fun _ _ _ h => h) HSC.out (.inl ⟨by kernel_rfl, by intro w hSw; rw [HSd.out] at hSw; obtain ⟨⟨d4, d5, dl⟩, ⟨z0, z1, z2, zl⟩⟩ := hSw; go_simp⟩) ?_
                simp only [Act.put]
                try simp only [List.getElem_toArray, List.getElem_cons_succ, List.getElem_cons_zero, List.setIfInBounds_toArray, List.set_cons_succ, List.set_cons_zero]
                refine HeadW.takeA 21 (v := .bool false) rfl (by kernel_rfl) rfl (by decide) (fun _ _ _ hL => seqB_ready hL.1) (by kernel_rfl) (by kernel_rfl) (fun _ _ _ h => h) HSC.out (.inl ⟨by kernel_rfl, by intro w hSw; rw [HSd.out] at hSw; obtain ⟨⟨d4, d5, dl⟩, ⟨z0, z1, z2, zl⟩⟩ := hSw; go_simp⟩) ?_
                simp only [Act.put]
                try simp only [List.getElem_toArray, List.getElem_cons_succ, List.getElem_cons_zero, List.setIfInBounds_toArray, List.set_cons_succ, List.set_cons_zero]
                refine fun hInv => ⟨by kernel_rfl, ?_⟩
                clear hInv
                simp only [List.drop_succ_cons, List.drop_zero]
                clear HSC HSd
                clear SC
                have HBx := Lib.hid ((Below.refl w10.heap.size w10).drew)
                go_wp2_with fail
                go_meet
                case rel => exact ⟨rfl, HBx.out⟩
            · clear hcst
              by_cases hce : 0 ≤ ce
              · have hsm := HW.out.2.cells Hok.out hce
                have hnb := HW.out.2.bnds Hok.out
                have HCe := Lib.hid (cells13_any p (some ⟨gl, 0, none⟩) cL L w10.drew ((HP4.out.below HB410.out).below ((Below.refl _ w10).drew)) ((RV.of_own HO10.out).below ((Below.refl _ w10).drew)) (by rw [HW.out.1]; omega) (fun z hz => by
                  obtain ⟨h1, h2⟩ := hnb z hz
                  exact ⟨by rw [← Hn.out, ← Hlen.out.2.2.2]; exact h1, h2⟩))
                rw [HW.out.1, Hpv.out] at HCe
                obtain ⟨SM, hSM⟩ : ∃ x, x = sumM p.plain L := ⟨_, rfl⟩
                rw [← hSM] at HCe hsm
                have hsm2 : ¬ ce < SM := by omega
                clear hnb hSM hsm
                go_upto_region 20 with (fail)
                obtain ⟨SC, hSCd⟩ : ∃ S : World → Prop, S = fun w' => (w'.cell? ⟨gF, 4, none⟩ = some (.int .i64 ce) ∧ w'.cell? ⟨gF, 5, none⟩ = some (.int .i64 co) ∧ gF < w'.heap.size) ∧ (w'.cell? ⟨gx, 0, none⟩ = some (.int .i64 p.mem) ∧ w'.cell? ⟨gx, 1, none⟩ = some (.slice p.AD p.data.length p.cD) ∧ w'.cell? ⟨gx, 2, none⟩ = some (.slice p.AF n p.cF) ∧ gx < w'.heap.size) := ⟨_, rfl⟩
                have hSC : SC w10.drew := by rw [hSCd]; exact hSw10
                have HSC := Lib.hid (show SC w10.drew from hSC)
                have HSd := Lib.hid hSCd
                clear hSC hSCd
                refine region_heldT 22 SC (by kernel_rfl) (by decide) ?_
                refine HeadW.takeA 0 (v := .pointer (some ⟨gF, 5, none⟩)) rfl (by kernel_rfl) rfl (by decide) (fun _ _ _ hL => seqB_ready hL.1) (by kernel_rfl) (by kernel_rfl) (fun _ _ _ h => h) HSC.out (.inl ⟨by kernel_rfl, by intro w hSw; rw [HSd.out] at hSw; obtain ⟨⟨d4, d5, dl⟩, ⟨z0, z1, z2, zl⟩⟩ := hSw; go_simp⟩) ?_
                simp only [Act.put, List.setIfInBounds_toArray]
                refine HeadW.takeA 1 (v := .int .i64 co) rfl (by kernel_rfl) rfl (by decide) (fun _ _ _ hL => seqB_ready hL.1) (by kernel_rfl) (by kernel_rfl) (fun _ _ _ h => h) HSC.out (.inl ⟨by kernel_rfl, by intro w hSw; rw [HSd.out] at hSw; obtain ⟨⟨d4, d5, dl⟩, ⟨z0, z1, z2, zl⟩⟩ := hSw; go_simp⟩) ?_
                simp only [Act.put]
                refine HeadW.takeA 2 (v := .bool false) rfl (by kernel_rfl) rfl (by decide) (fun _ _ _ hL => seqB_ready hL.1) (by kernel_rfl) (by kernel_rfl) (fun _ _ _ h => h) HSC.out (.inl ⟨by kernel_rfl, by intro w hSw; rw [HSd.out] at hSw; obtain ⟨⟨d4, d5, dl⟩, ⟨z0, z1, z2, zl⟩⟩ := hSw; go_simp⟩) ?_
                simp only [Act.put]
                try simp only [List.getElem_toArray, List.getElem_cons_succ, List.getElem_cons_zero, List.setIfInBounds_toArray, List.set_cons_succ, List.set_cons_zero]
                refine HeadW.takeA 3 (v := .bool false) rfl (by kernel_rfl) rfl (by decide) (fun _ _ _ hL => seqB_ready hL.1) (by kernel_rfl) (by kernel_rfl) (fun _ _ _ h => h) HSC.out (.inl ⟨by kernel_rfl, by intro w hSw; rw [HSd.out] at hSw; obtain ⟨⟨d4, d5, dl⟩, ⟨z0, z1, z2, zl⟩⟩ := hSw; go_simp⟩) ?_
                simp only [Act.put]
                refine HeadW.takeA 4 (v := undef) rfl (by kernel_rfl) rfl (by decide) (fun _ _ _ hL => seqB_ready hL.1) (by kernel_rfl) (by kernel_rfl) (fun _ _ _ h => h) HSC.out (.inr ⟨by kernel_rfl, rfl⟩) ?_
                simp only [Act.put]
                refine HeadW.takeA 5 (v := undef) rfl (by kernel_rfl) rfl (by decide) (fun _ _ _ hL => seqB_ready hL.1) (by kernel_rfl) (by kernel_rfl) (fun _ _ _ h => h) HSC.out (.inr ⟨by kernel_rfl, rfl⟩) ?_
                simp only [Act.put]
                try simp only [List.getElem_toArray, List.getElem_cons_succ, List.getElem_cons_zero, List.setIfInBounds_toArray, List.set_cons_succ, List.set_cons_zero]
                refine HeadW.takeA 6 (v := undef) rfl (by kernel_rfl) rfl (by decide) (fun _ _ _ hL => seqB_ready hL.1) (by kernel_rfl) (by kernel_rfl) (fun _ _ _ h => h) HSC.out (.inr ⟨by kernel_rfl, rfl⟩) ?_
                simp only [Act.put]
                refine HeadW.takeA 7 (v := undef) rfl (by kernel_rfl) rfl (by decide) (fun _ _ _ hL => seqB_ready hL.1) (by kernel_rfl) (by kernel_rfl) (fun _ _ _ h => h) HSC.out (.inr ⟨by kernel_rfl, rfl⟩) ?_
                simp only [Act.put]
                refine HeadW.takeA 8 (v := .bool false) rfl (by kernel_rfl) rfl (by decide) (fun _ _ _ hL => seqB_ready hL.1) (by kernel_rfl) (by kernel_rfl) (fun _ _ _ h => h) HSC.out (.inl ⟨by kernel_rfl, by intro w hSw; rw [HSd.out] at hSw; obtain ⟨⟨d4, d5, dl⟩, ⟨z0, z1, z2, zl⟩⟩ := hSw; go_simp⟩) ?_
                simp only [Act.put]
                try simp only [List.getElem_toArray, List.getElem_cons_succ, List.getElem_cons_zero, List.setIfInBounds_toArray, List.set_cons_succ, List.set_cons_zero]
                refine HeadW.takeA 9 (v := .bool false) rfl (by kernel_rfl) rfl (by decide) (fun _ _ _ hL => seqB_ready hL.1) (by kernel_rfl) (by kernel_rfl) (fun _ _ _ h => h) HSC.out (.inl ⟨by kernel_rfl, by intro w hSw; rw [HSd.out] at hSw; obtain ⟨⟨d4, d5, dl⟩, ⟨z0, z1, z2, zl⟩⟩ := hSw; go_simp⟩) ?_
                simp only [Act.put]
                refine HeadW.takeA 10 (v := .pointer (some ⟨gF, 4, none⟩)) rfl (by kernel_rfl) rfl (by decide) (fun _ _ _ hL => seqB_ready hL.1) (by kernel_rfl) (by kernel_rfl) (fun _ _ _ h => h) HSC.out (.inl ⟨by kernel_rfl, by intro w hSw; rw [HSd.out] at hSw; obtain ⟨⟨d4, d5, dl⟩, ⟨z0, z1, z2, zl⟩⟩ := hSw; go_simp⟩) ?_
                simp only [Act.put]
                refine HeadW.takeA 11 (v := .int .i64 ce) rfl (by kernel_rfl) rfl (by decide) (fun _ _ _ hL => seqB_ready hL.1) (by kernel_rfl) (by kernel_rfl) (fun _ _ _ h => h) HSC.out (.inl ⟨by kernel_rfl, by intro w hSw; rw [HSd.out] at hSw; obtain ⟨⟨d4, d5, dl⟩, ⟨z0, z1, z2, zl⟩⟩ := hSw; go_simp⟩) ?_
                simp only [Act.put]
                try simp only [List.getElem_toArray, List.getElem_cons_succ, List.getElem_cons_zero, List.setIfInBounds_toArray, List.set_cons_succ, List.set_cons_zero]
                refine HeadW.takeA 12 (v := .bool true) rfl (by kernel_rfl) rfl (by decide) (fun _ _ _ hL => seqB_ready hL.1) (by kernel_rfl) (by kernel_rfl) (fun _ _ _ h => h) HSC.out (.inl ⟨by kernel_rfl, by intro w hSw; rw [HSd.out] at hSw; obtain ⟨⟨d4, d5, dl⟩, ⟨z0, z1, z2, zl⟩⟩ := hSw; go_simp⟩) ?_
                simp only [Act.put]
                refine HeadW.takeA 13 (v := .bool true) rfl (by kernel_rfl) rfl (by decide) (fun _ _ _ hL => seqB_ready hL.1) (by kernel_rfl) (by kernel_rfl) (fun _ _ _ h => h) HSC.out (.inl ⟨by kernel_rfl, by intro w hSw; rw [HSd.out] at hSw; obtain ⟨⟨d4, d5, dl⟩, ⟨z0, z1, z2, zl⟩⟩ := hSw; go_simp⟩) ?_
                simp only [Act.put]
                refine HeadW.takeA 14 (v := .agg #[.int .i64 p.mem, .slice p.AD p.data.length p.cD, .slice p.AF n p.cF]) rfl (by kernel_rfl) rfl (by decide) (fun _ _ _ hL => seqB_ready hL.1) (by kernel_rfl) (by kernel_rfl) (fun _ _ _ h => h) HSC.out (.inl ⟨by kernel_rfl, by intro w hSw; rw [HSd.out] at hSw; obtain ⟨⟨d4, d5, dl⟩, ⟨z0, z1, z2, zl⟩⟩ := hSw; go_simp⟩) ?_
                simp only [Act.put]
                try simp only [List.getElem_toArray, List.getElem_cons_succ, List.getElem_cons_zero, List.setIfInBounds_toArray, List.set_cons_succ, List.set_cons_zero]
                refine HeadW.takeA 15 (v := .slice (some ⟨gl, 0, none⟩) (K + 1) cL) rfl (by kernel_rfl) rfl (by decide) (fun _ _ _ hL => seqB_ready hL.1) (by kernel_rfl) (by kernel_rfl) (fun _ _ _ h => h) HSC.out (.inl ⟨by kernel_rfl, by intro w hSw; rw [HSd.out] at hSw; obtain ⟨⟨d4, d5, dl⟩, ⟨z0, z1, z2, zl⟩⟩ := hSw; go_simp⟩) ?_
                simp only [Act.put]
                refine HeadW.takeA 17 (v := .pointer (some ⟨gF, 4, none⟩)) rfl (by kernel_rfl) rfl (by decide) (fun _ _ _ hL => seqB_ready hL.1) (by kernel_rfl) (by kernel_rfl) (fun _ _ _ h => h) HSC.out (.inl ⟨by kernel_rfl, by intro w hSw; rw [HSd.out] at hSw; obtain ⟨⟨d4, d5, dl⟩, ⟨z0, z1, z2, zl⟩⟩ := hSw; go_simp⟩) ?_
                simp only [Act.put]
                refine HeadW.takeA 18 (v := .int .i64 ce) rfl (by kernel_rfl) rfl (by decide) (fun _ _ _ hL => seqB_ready hL.1) (by kernel_rfl) (by kernel_rfl) (fun _ _ _ h => h) HSC.out (.inl ⟨by kernel_rfl, by intro w hSw; rw [HSd.out] at hSw; obtain ⟨⟨d4, d5, dl⟩, ⟨z0, z1, z2, zl⟩⟩ := hSw; go_simp⟩) ?_
                simp only [Act.put]
                try simp only [List.getElem_toArray, List.getElem_cons_succ, List.getElem_cons_zero, List.setIfInBounds_toArray, List.set_cons_succ, List.set_cons_zero]
                try simp only [List.getElem_toArray, List.getElem_cons_succ, List.getElem_cons_zero, List.setIfInBounds_toArray, List.set_cons_succ, List.set_cons_zero]
                refine headW_one 16 rfl (by decide) (by kernel_rfl) (by kernel_rfl) fun K' hK' => ?_
                go_simp
                refine HCe.out.mono ?_
                rintro e w11 ⟨rfl, hb11⟩
                have hb1011 : Below w10.heap.size w10 w11 := (Below.refl _ w10).drew.trans hb11
                have HBx := Lib.hid hb1011
                have hSC11 : SC w11 := by
                  have h := HSC.out
                  rw [HSd.out] at h ⊢
                  obtain ⟨⟨d4, d5, dl⟩, ⟨z0, z1, z2, zl⟩⟩ := h
                  obtain ⟨hc, -⟩ := bcell hb1011
                  have hz := hb1011.size
                  exact ⟨⟨(hc _ _ dl).trans d4, (hc _ _ dl).trans d5, by omega⟩, ⟨(hc _ _ zl).trans z0, (hc _ _ zl).trans z1, (hc _ _ zl).trans z2, by omega⟩⟩
                refine hK'.out _ _ hSC11 (fun hHeld => ?_)
                clear hK' K' hHeld hb11 hb1011
                refine HeadW.takeA 19 (v := .bool false) rfl (by kernel_rfl) rfl (by decide) (fun _ _ _ hL => seqB_ready hL.1) (by kernel_rfl) (by kernel_rfl) (fun _ _ _ h => h) hSC11 (.inl ⟨by kernel_rfl, by intro w hSw; rw [HSd.out] at hSw; obtain ⟨⟨d4, d5, dl⟩, ⟨z0, z1, z2, zl⟩⟩ := hSw; go_simp⟩) ?_
                simp only [Act.put]
                refine HeadW.takeA 20 (v := .bool false) rfl (by kernel_rfl) rfl (by decide) (fun _ _ _ hL => seqB_ready hL.1) (by kernel_rfl) (by kernel_rfl) (fun _ _ _ h => h) hSC11 (.inl ⟨by kernel_rfl, by intro w hSw; rw [HSd.out] at hSw; obtain ⟨⟨d4, d5, dl⟩, ⟨z0, z1, z2, zl⟩⟩ := hSw; go_simp⟩) ?_
                simp only [Act.put]
                refine HeadW.takeA 21 (v := .bool false) rfl (by kernel_rfl) rfl (by decide) (fun _ _ _ hL => seqB_ready hL.1) (by kernel_rfl) (by kernel_rfl) (fun _ _ _ h => h) hSC11 (.inl ⟨by kernel_rfl, by intro w hSw; rw [HSd.out] at hSw; obtain ⟨⟨d4, d5, dl⟩, ⟨z0, z1, z2, zl⟩⟩ := hSw; go_simp⟩) ?_
                simp only [Act.put]
                try simp only [List.getElem_toArray, List.getElem_cons_succ, List.getElem_cons_zero, List.setIfInBounds_toArray, List.set_cons_succ, List.set_cons_zero]
                try simp only [List.getElem_toArray, List.getElem_cons_succ, List.getElem_cons_zero, List.setIfInBounds_toArray, List.set_cons_succ, List.set_cons_zero]
                refine fun hInv => ⟨by kernel_rfl, ?_⟩
                clear hInv
                simp only [List.drop_succ_cons, List.drop_zero]
                clear HSC HSd hSC11
                clear SC
                go_wp2_with fail
                go_meet
                case rel => exact ⟨rfl, HBx.out⟩
              · go_upto_region 20 with (fail)
                obtain ⟨SC, hSCd⟩ : ∃ S : World → Prop, S = fun w' => (w'.cell? ⟨gF, 4, none⟩ = some (.int .i64 ce) ∧ w'.cell? ⟨gF, 5, none⟩ = some (.int .i64 co) ∧ gF < w'.heap.size) ∧ (w'.cell? ⟨gx, 0, none⟩ = some (.int .i64 p.mem) ∧ w'.cell? ⟨gx, 1, none⟩ = some (.slice p.AD p.data.length p.cD) ∧ w'.cell? ⟨gx, 2, none⟩ = some (.slice p.AF n p.cF) ∧ gx < w'.heap.size) := ⟨_, rfl⟩
                have hSC : SC w10.drew := by rw [hSCd]; exact hSw10
                have HSC := Lib.hid (show SC w10.drew from hSC)
                have HSd := Lib.hid hSCd
                clear hSC hSCd
                refine region_heldT 22 SC (by kernel_rfl) (by decide) ?_
                refine HeadW.takeA 0 (v := .pointer (some ⟨gF, 5, none⟩)) rfl (by kernel_rfl) rfl (by decide) (fun _ _ _ hL => seqB_ready hL.1) (by kernel_rfl) (by kernel_rfl) (fun _ _ _ h => h) HSC.out (.inl ⟨by kernel_rfl, by intro w hSw; rw [HSd.out] at hSw; obtain ⟨⟨d4, d5, dl⟩, ⟨z0, z1, z2, zl⟩⟩ := hSw; go_simp⟩) ?_
                simp only [Act.put, List.setIfInBounds_toArray]
                refine HeadW.takeA 1 (v := .int .i64 co) rfl (by kernel_rfl) rfl (by decide) (fun _ _ _ hL => seqB_ready hL.1) (by kernel_rfl) (by kernel_rfl) (fun _ _ _ h => h) HSC.out (.inl ⟨by kernel_rfl, by intro w hSw; rw [HSd.out] at hSw; obtain ⟨⟨d4, d5, dl⟩, ⟨z0, z1, z2, zl⟩⟩ := hSw; go_simp⟩) ?_
                simp only [Act.put]
                refine HeadW.takeA 2 (v := .bool false) rfl (by kernel_rfl) rfl (by decide) (fun _ _ _ hL => seqB_ready hL.1) (by kernel_rfl) (by kernel_rfl) (fun _ _ _ h => h) HSC.out (.inl ⟨by kernel_rfl, by intro w hSw; rw [HSd.out] at hSw; obtain ⟨⟨d4, d5, dl⟩, ⟨z0, z1, z2, zl⟩⟩ := hSw; go_simp⟩) ?_
                simp only [Act.put]
                try simp only [List.getElem_toArray, List.getElem_cons_succ, List.getElem_cons_zero, List.setIfInBounds_toArray, List.set_cons_succ, List.set_cons_zero]
                refine HeadW.takeA 3 (v := .bool false) rfl (by kernel_rfl) rfl (by decide) (fun _ _ _ hL => seqB_ready hL.1) (by kernel_rfl) (by kernel_rfl) (fun _ _ _ h => h) HSC.out (.inl ⟨by kernel_rfl, by intro w hSw; rw [HSd.out] at hSw; obtain ⟨⟨d4, d5, dl⟩, ⟨z0, z1, z2, zl⟩⟩ := hSw; go_simp⟩) ?_
                simp only [Act.put]
                refine HeadW.takeA 4 (v := undef) rfl (by kernel_rfl) rfl (by decide) (fun _ _ _ hL => seqB_ready hL.1) (by kernel_rfl) (by kernel_rfl) (fun _ _ _ h => h) HSC.out (.inr ⟨by kernel_rfl, rfl⟩) ?_
                simp only [Act.put]
                refine HeadW.takeA 5 (v := undef) rfl (by kernel_rfl) rfl (by decide) (fun _ _ _ hL => seqB_ready hL.1) (by kernel_rfl) (by kernel_rfl) (fun _ _ _ h => h) HSC.out (.inr ⟨by kernel_rfl, rfl⟩) ?_
                simp only [Act.put]
                try simp only [List.getElem_toArray, List.getElem_cons_succ, List.getElem_cons_zero, List.setIfInBounds_toArray, List.set_cons_succ, List.set_cons_zero]
                refine HeadW.takeA 6 (v := undef) rfl (by kernel_rfl) rfl (by decide) (fun _ _ _ hL => seqB_ready hL.1) (by kernel_rfl) (by kernel_rfl) (fun _ _ _ h => h) HSC.out (.inr ⟨by kernel_rfl, rfl⟩) ?_
                simp only [Act.put]
                refine HeadW.takeA 7 (v := undef) rfl (by kernel_rfl) rfl (by decide) (fun _ _ _ hL => seqB_ready hL.1) (by kernel_rfl) (by kernel_rfl) (fun _ _ _ h => h) HSC.out (.inr ⟨by kernel_rfl, rfl⟩) ?_
                simp only [Act.put]
                refine HeadW.takeA 8 (v := .bool false) rfl (by kernel_rfl) rfl (by decide) (fun _ _ _ hL => seqB_ready hL.1) (by kernel_rfl) (by kernel_rfl) (fun _ _ _ h => h) HSC.out (.inl ⟨by kernel_rfl, by intro w hSw; rw [HSd.out] at hSw; obtain ⟨⟨d4, d5, dl⟩, ⟨z0, z1, z2, zl⟩⟩ := hSw; go_simp⟩) ?_
                simp only [Act.put]
                try simp only [List.getElem_toArray, List.getElem_cons_succ, List.getElem_cons_zero, List.setIfInBounds_toArray, List.set_cons_succ, List.set_cons_zero]
                refine HeadW.takeA 9 (v := .bool false) rfl (by kernel_rfl) rfl (by decide) (fun _ _ _ hL => seqB_ready hL.1) (by kernel_rfl) (by kernel_rfl) (fun _ _ _ h => h) HSC.out (.inl ⟨by kernel_rfl, by intro w hSw; rw [HSd.out] at hSw; obtain ⟨⟨d4, d5, dl⟩, ⟨z0, z1, z2, zl⟩⟩ := hSw; go_simp⟩) ?_
                simp only [Act.put]
                refine HeadW.takeA 10 (v := .pointer (some ⟨gF, 4, none⟩)) rfl (by kernel_rfl) rfl (by decide) (fun _ _ _ hL => seqB_ready hL.1) (by kernel_rfl) (by kernel_rfl) (fun _ _ _ h => h) HSC.out (.inl ⟨by kernel_rfl, by intro w hSw; rw [HSd.out] at hSw; obtain ⟨⟨d4, d5, dl⟩, ⟨z0, z1, z2, zl⟩⟩ := hSw; go_simp⟩) ?_
                simp only [Act.put]
                refine HeadW.takeA 11 (v := .int .i64 ce) rfl (by kernel_rfl) rfl (by decide) (fun _ _ _ hL => seqB_ready hL.1) (by kernel_rfl) (by kernel_rfl) (fun _ _ _ h => h) HSC.out (.inl ⟨by kernel_rfl, by intro w hSw; rw [HSd.out] at hSw; obtain ⟨⟨d4, d5, dl⟩, ⟨z0, z1, z2, zl⟩⟩ := hSw; go_simp⟩) ?_
                simp only [Act.put]
                try simp only [List.getElem_toArray, List.getElem_cons_succ, List.getElem_cons_zero, List.setIfInBounds_toArray, List.set_cons_succ, List.set_cons_zero]
                refine HeadW.takeA 12 (v := .bool false) rfl (by kernel_rfl) rfl (by decide) (fun _ _ _ hL => seqB_ready hL.1) (by kernel_rfl) (by kernel_rfl) (fun _ _ _ h => h) HSC.out (.inl ⟨by kernel_rfl, by intro w hSw; rw [HSd.out] at hSw; obtain ⟨⟨d4, d5, dl⟩, ⟨z0, z1, z2, zl⟩⟩ := hSw; go_simp⟩) ?_
                simp only [Act.put]
                refine HeadW.takeA 13 (v := .bool false) rfl (by kernel_rfl) rfl (by decide) (fun _ _ _ hL => seqB_ready hL.1) (by kernel_rfl) (by kernel_rfl) (fun _ _ _ h => h) HSC.out (.inl ⟨by kernel_rfl, by intro w hSw; rw [HSd.out] at hSw; obtain ⟨⟨d4, d5, dl⟩, ⟨z0, z1, z2, zl⟩⟩ := hSw; go_simp⟩) ?_
                simp only [Act.put]
                refine HeadW.takeA 14 (v := undef) rfl (by kernel_rfl) rfl (by decide) (fun _ _ _ hL => seqB_ready hL.1) (by kernel_rfl) (by kernel_rfl) (fun _ _ _ h => h) HSC.out (.inr ⟨by kernel_rfl, rfl⟩) ?_
                simp only [Act.put]
                try simp only [List.getElem_toArray, List.getElem_cons_succ, List.getElem_cons_zero, List.setIfInBounds_toArray, List.set_cons_succ, List.set_cons_zero]
                refine HeadW.takeA 15 (v := undef) rfl (by kernel_rfl) rfl (by decide) (fun _ _ _ hL => seqB_ready hL.1) (by kernel_rfl) (by kernel_rfl) (fun _ _ _ h => h) HSC.out (.inr ⟨by kernel_rfl, rfl⟩) ?_
                simp only [Act.put]
                refine HeadW.takeA 16 (v := undef) rfl (by kernel_rfl) rfl (by decide) (fun _ _ _ hL => seqB_ready hL.1) (by kernel_rfl) (by kernel_rfl) (fun _ _ _ h => h) HSC.out (.inr ⟨by kernel_rfl, rfl⟩) ?_
                simp only [Act.put]
                refine HeadW.takeA 17 (v := undef) rfl (by kernel_rfl) rfl (by decide) (fun _ _ _ hL => seqB_ready hL.1) (by kernel_rfl) (by kernel_rfl) (fun _ _ _ h => h) HSC.out (.inr ⟨by kernel_rfl, rfl⟩) ?_
                simp only [Act.put]
                try simp only [List.getElem_toArray, List.getElem_cons_succ, List.getElem_cons_zero, List.setIfInBounds_toArray, List.set_cons_succ, List.set_cons_zero]
                refine HeadW.takeA 18 (v := undef) rfl (by kernel_rfl) rfl (by decide) (fun _ _ _ hL => seqB_ready hL.1) (by kernel_rfl) (by kernel_rfl) (fun _ _ _ h => h) HSC.out (.inr ⟨by kernel_rfl, rfl⟩) ?_
                simp only [Act.put]
                refine HeadW.takeA 19 (v := undef) rfl (by kernel_rfl) rfl (by decide) (fun _ _ _ hL => seqB_ready hL.1) (by kernel_rfl) (by kernel_rfl) (fun _ _ _ h => h) HSC.out (.inr ⟨by kernel_rfl, rfl⟩) ?_
                simp only [Act.put]
                refine HeadW.takeA 20 (v := .bool false) rfl (by kernel_rfl) rfl (by decide) (fun _ _ _ hL => seqB_ready hL.1) (by kernel_rfl) (by kernel_rfl) (fun _ _ _ h => h) HSC.out (.inl ⟨by kernel_rfl, by intro w hSw; rw [HSd.out] at hSw; obtain ⟨⟨d4, d5, dl⟩, ⟨z0, z1, z2, zl⟩⟩ := hSw; go_simp⟩) ?_
                simp only [Act.put]
                try simp only [List.getElem_toArray, List.getElem_cons_succ, List.getElem_cons_zero, List.setIfInBounds_toArray, List.set_cons_succ, List.set_cons_zero]
                refine HeadW.takeA 21 (v := .bool false) rfl (by kernel_rfl) rfl (by decide) (fun _ _ _ hL => seqB_ready hL.1) (by kernel_rfl) (by kernel_rfl) (fun _ _ _ h => h) HSC.out (.inl ⟨by kernel_rfl, by intro w hSw; rw [HSd.out] at hSw; obtain ⟨⟨d4, d5, dl⟩, ⟨z0, z1, z2, zl⟩⟩ := hSw; go_simp⟩) ?_
                simp only [Act.put]
                try simp only [List.getElem_toArray, List.getElem_cons_succ, List.getElem_cons_zero, List.setIfInBounds_toArray, List.set_cons_succ, List.set_cons_zero]
                refine fun hInv => ⟨by kernel_rfl, ?_⟩
                clear hInv
                simp only [List.drop_succ_cons, List.drop_zero]
                clear HSC HSd
                clear SC
                have HBx := Lib.hid ((Below.refl w10.heap.size w10).drew)
                go_wp2_with fail
                go_meet
                case rel => exact ⟨rfl, HBx.out⟩
          case rest =>
          rename World => w12
          obtain ⟨rfl, hb1012⟩ := hcut
          have hB412 := HB410.out.trans (hb1012.mono HB410.out.size)
          have HBe12 := Lib.hid (HBe10.out.below hb1012)
          have HO12 := Lib.hid (Own.below HO10.out hb1012 (Nat.le_refl _))
          have HN12 := Lib.hid (HN10.out.below hb1012 HN10.out.lt)
          have HB412 := Lib.hid hB412
          clear hB412 hb1012 HBe10 HO10 HN10 HB410
          go_upto_if 171 with (fail)
          go_cut [14] from 147 to 215 (fun s wx => ∃ pk : Int, s = .int .i64 pk ∧ ∃ q, wx = w12.drewN q)
          case first =>
            as_aux_lemma =>
            by_cases htn : 0 < ts.length
            · have hml2 : d % ts.length < ts.length := Nat.mod_lt _ htn
              have hRT := HT4.out.below HB412.out
              obtain ⟨tb, toff, rfl, htb, hc⟩ := hRT.at_ (by rw [List.length_map]; exact htn)
              have hct : w12.cell? ⟨tb, toff + d % ts.length, none⟩ = some (.int .i64 (ts[d % ts.length]'hml2)) := hc _ _ (by simp [List.getElem?_eq_getElem hml2])
              have e1 : (d : Int).tmod (ts.length : Int) = ((d % ts.length : Nat) : Int) := by
                rw [Int.tmod_eq_emod_of_nonneg (by omega)]; exact (Int.natCast_emod _ _).symm
              have g2 : 0 < (ts.length : Int) := by omega
              have g3 : ((ts.length : Int) == 0) = false := by rw [beq_eq_false_iff_ne]; omega
              generalize ts[d % ts.length]'hml2 = tv at *
              generalize hdm : d % ts.length = tm at *
              clear hc hRT hdm
              go_wp2_with fail
              go_meet
              case rel => exact ⟨tv, rfl, 0, rfl⟩
            · have g2 : ¬ 0 < (ts.length : Int) := by omega
              go_wp2_with fail
              go_meet
              case rel => exact ⟨0, rfl, 0, rfl⟩
          case rest =>
          obtain ⟨pk, rfl, q, rfl⟩ := hcut
          have hbd : Below w12.heap.size w12 (w12.drewN q) := below_drewN (Below.refl w12.heap.size w12) q
          have HBe13 := Lib.hid (HBe12.out.below hbd)
          have HO13 := Lib.hid (Own.below HO12.out hbd (Nat.le_refl _))
          have hN13 := HN12.out.below hbd HN12.out.lt
          have hB413 := HB412.out.trans (hbd.mono HB412.out.size)
          clear hbd HBe12 HO12 HN12 HB412
          generalize w12.drewN q = w13 at *
          have hP13 := HP4.out.below hB413
          obtain ⟨bz, oz, hAz, hbz, -, -, -, -, hFn, -⟩ := hP13.fn HA1.out.2.1
          obtain ⟨b1', off1', hA1', hb1', i0, i1, -, -⟩ := hFn.ins HA1.out.2.2
          have hAe := HA1.out.1.symm.trans hA1'
          injection hAe with hAe
          injection hAe with e1 e2
          subst e1 e2
          obtain ⟨op, aa⟩ := i
          dsimp only at i0 i1
          have n0 : w13.cell? ⟨gn, 0, none⟩ = some (.int .i64 (yf : Int)) := hN13.cell 0
          have n1 : w13.cell? ⟨gn, 1, none⟩ = some (.int .i64 (yn : Int)) := hN13.cell 1
          have nl' := hN13.lt
          obtain ⟨w14, hw14⟩ : ∃ w', w' = w13.alloc (.cells #[.int .i64 op, .int .i64 aa] 45) := ⟨_, rfl⟩
          obtain ⟨gi, hgi⟩ : ∃ g, g = w13.heap.size := ⟨_, rfl⟩
          have hb14 : Below w13.heap.size w13 w14 := by rw [hw14]; exact (Below.refl _ _).alloc (Nat.le_refl _) _
          have hI14 : Blk w14 gi 45 #[.int .i64 op, .int .i64 aa] := by rw [hw14, hgi]; exact Blk.new _ _ _
          have hB414 := hB413.trans (hb14.mono hB413.size)
          have hX14 := HX4.out.below hB414 HX4.out.lt
          have HBe14 := Lib.hid (HBe13.out.below hb14)
          have HO14 := Lib.hid (Own.below HO13.out hb14 (Nat.le_refl _))
          have HB414 := Lib.hid hB414
          have Hw14 := Lib.hid hw14
          have Hgi := Lib.hid hgi
          have HP14 := Lib.hid (HP4.out.below hB414)
          have x0 : w14.cell? ⟨gx, 0, none⟩ = some (.int .i64 p.mem) := hX14.cell 0
          have x1 : w14.cell? ⟨gx, 1, none⟩ = some (.slice p.AD p.data.length p.cD) := hX14.cell 1
          have x2 : w14.cell? ⟨gx, 2, none⟩ = some (.slice p.AF n p.cF) := by rw [Hn.out]; exact hX14.cell 2
          have xl := hX14.lt
          have j0 : w14.cell? ⟨gi, 0, none⟩ = some (.int .i64 op) := hI14.cell 0
          have j1 : w14.cell? ⟨gi, 1, none⟩ = some (.int .i64 aa) := hI14.cell 1
          have jl := hI14.lt
          have hcap : K + 1 ≤ cL := Own.le_cap HO14.out
          clear hN13 hP13 hFn hAz hbz hA1' hw14 hgi hb14 hI14 hB414 hB413 hX14 HBe13 HO13
          go_upto_region 26 with (fail)
          rw [← Hw14.out, ← Hgi.out]
          clear Hw14 Hgi n0 n1 nl' i0 i1 hb1'
          obtain ⟨y1, y2, y3, y4, y5⟩ := HyE.out
          have hHi : p.plain.ins yf yn = some ⟨op, aa⟩ := by rw [y1, y2]; exact Hi.out
          have HHi := Lib.hid hHi
          have hII : InsFacts p.plain yf yn ⟨op, aa⟩ := by rw [y1, y2]; exact HI.out
          have HII := Lib.hid hII
          have HWk := Lib.hid (show WkOk p.plain hs co d L y r ∧ L.length = K + 1 from ⟨HW.out.2, HW.out.1⟩)
          have hpos : 0 ≤ yh ∧ yh ≤ 256 := by
            rw [y3]
            exact ⟨HW.out.2.top.pos, ((Hok.out.fin y.x.f (Hok.out.flt HW.out.2.top.live)).bnd y.x.n y.x.h HW.out.2.top.at_).2⟩
          obtain ⟨L', hL'⟩ : ∃ l, l = r.reverse ++ [(⟨⟨yf, yn, yh, y.x.been.set yn true⟩, yg⟩ : FrM)] := ⟨_, rfl⟩
          have hfl : L'.flatMap frCells = L.flatMap frCells := by
            rw [hL', HW.out.2.rev, List.flatMap_append, List.flatMap_append]
            congr 1
            show ([.int .i64 (yf : Int), .int .i64 (yn : Int), .int .i64 yh, .slice (some ⟨yg, 0, none⟩) (y.x.been.set yn true).length (y.x.been.set yn true).length] : List Value) = [.int .i64 (y.x.f : Int), .int .i64 (y.x.n : Int), .int .i64 y.x.h, .slice (some ⟨y.g, 0, none⟩) y.x.been.length y.x.been.length]
            rw [List.length_set, y1, y2, y3, y4]
          have hL'n : L'.length = K + 1 := by rw [hL', List.length_append, List.length_reverse, Hbl.out.2.2.1]; rfl
          have hL'y : L'[K]? = some ⟨⟨yf, yn, yh, y.x.been.set yn true⟩, yg⟩ := by
            rw [hL', List.getElem?_append_right (by rw [List.length_reverse, Hbl.out.2.2.1]; exact Nat.le_refl _), List.length_reverse, Hbl.out.2.2.1, Nat.sub_self]
            rfl
          have hL't : L'.take K = r.reverse := by rw [hL', List.take_left' (by rw [List.length_reverse, Hbl.out.2.2.1])]
          have hRV14 : RV w14 (some ⟨gl, 0, none⟩) (L'.flatMap frCells) := by rw [hfl]; exact RV.of_own HO14.out
          have HL' := Lib.hid (show L'.length = K + 1 ∧ L'[K]? = some ⟨⟨yf, yn, yh, y.x.been.set yn true⟩, yg⟩ ∧ L'.take K = r.reverse ∧ RV w14 (some ⟨gl, 0, none⟩) (L'.flatMap frCells) ∧ 0 ≤ yh ∧ yh ≤ 256 ∧ BeenM w14 w4.heap.size L' from ⟨hL'n, hL'y, hL't, hRV14, hpos.1, hpos.2, by rw [hL']; exact HBe14.out⟩)
          have HPg := Lib.hid (show .agg #[.int .i64 p.mem, .slice p.AD p.data.length p.cD, .slice p.AF n p.cF] = p.val from Hpv.out.symm)
          clear hHi hII hpos hL' hfl hL'n hL'y hL't hRV14 y1 y2 y3 y4 y5 HO14 HBe14 HA1
          by_cases o1 : op = 1
          · as_aux_lemma =>
            subst o1
            go_wp2_with fail
            refine (head13_any _).mono ?_
            rintro e w15 ⟨rfl, hb15⟩
            have HB15 := Lib.hid (HB4.out.trans ((HB414.out.trans (hb15.mono HB414.out.size)).mono HB4.out.size))
            clear hb15
            go_wp2_with fail
            go_ret
            exact ⟨rfl, HB15.out⟩
          by_cases o2 : op = 2
          · as_aux_lemma =>
            subst o2
            go_wp2_with fail
            refine (head13_any _).mono ?_
            rintro e w15 ⟨rfl, hb15⟩
            have HB15 := Lib.hid (HB4.out.trans ((HB414.out.trans (hb15.mono HB414.out.size)).mono HB4.out.size))
            clear hb15
            go_wp2_with fail
            go_ret
            exact ⟨rfl, HB15.out⟩
          have o1b : (op == 1) = false := by simpa using o1
          have o2b : (op == 2) = false := by simpa using o2
          by_cases o18 : op = 18
          · subst o18
            by_cases hK0 : K = 0
            · as_aux_lemma =>
              subst hK0
              go_wp2_with fail
              refine (head13_any _).mono ?_
              rintro e w15 ⟨rfl, hb15⟩
              have HB15 := Lib.hid (HB4.out.trans ((HB414.out.trans (hb15.mono HB414.out.size)).mono HB4.out.size))
              clear hb15
              go_wp2_with fail
              go_ret
              exact ⟨rfl, HB15.out⟩
            · as_aux_lemma =>
              obtain ⟨K1, rfl⟩ : ∃ k, K = k + 1 := ⟨K - 1, by omega⟩
              obtain ⟨q, r2, rfl⟩ : ∃ q r2, r = q :: r2 := by
                cases r with
                | nil => have h := Hbl.out.2.2.1; simp at h
                | cons q r2 => exact ⟨q, r2, rfl⟩
              have hr2 : r2.length = K1 := by have h := Hbl.out.2.2.1; simpa using h
              have hK3 : (((K1 : Int) + 1 + 1) == 1) = false := by simp; omega
              have hq : L'[K1]? = some q := by
                have h1 : (L'.take (K1 + 1))[K1]? = some q := by
                  rw [HL'.out.2.2.1, List.reverse_cons, List.getElem?_append_right (by rw [List.length_reverse, hr2]; exact Nat.le_refl _), List.length_reverse, hr2, Nat.sub_self]
                  rfl
                rw [List.getElem?_take] at h1
                split at h1
                · exact h1
                · cases h1
              have hqb := HWk.out.1.bnds Hok.out q (by rw [HWk.out.1.rev]; simp)
              have Hr2 := Lib.hid hr2
              have hT := HII.out
              have HCw := Lib.hid (walkedR p L' (K1 + 1) gl cL ⟨⟨yf, yn, yh, y.x.been.set yn true⟩, yg⟩ 18 aa pk w14 HP14.out HL'.out.2.2.2.1 HL'.out.1 (by omega) hcap HL'.out.2.1 (by have := HL'.out.2.2.2.2.1; dsimp only; omega) HL'.out.2.2.2.2.2.1 hT.t0 hT.t1 hT.g0 hT.g1 K1 rfl q hq ⟨by omega, by omega⟩ rfl)
              dsimp only at HCw
              rw [HL'.out.2.2.1, ← HPg.out] at HCw
              clear hT
              go_wp2_with fail
              refine HCw.out.mono ?_
              rintro e w15 ⟨A', c', rfl, hO15, hb15⟩
              have hG := HWk.out.1.ret Hok.out Hi.out rfl
              rw [← HyE.out.1, ← HyE.out.2.1] at hG
              have hset : (q :: r2).reverse.set K1 (⟨⟨q.x.f, q.x.n, q.x.h + (takesL p.plain yf yn).1, q.x.been⟩, q.g⟩ : FrM) = r2.reverse ++ [(⟨⟨q.x.f, q.x.n, q.x.h + (takesL p.plain yf yn).1, q.x.been⟩, q.g⟩ : FrM)] := by
                rw [List.reverse_cons, List.set_append, if_neg (by rw [List.length_reverse, Hr2.out]; omega), List.length_reverse, Hr2.out, Nat.sub_self]
                rfl
              rw [hset] at hO15
              obtain ⟨gl2, rfl, hgl2, -⟩ := own_some hO15 (by omega)
              have HO15 := Lib.hid (hO15.mono HB414.out.size)
              have HB415 := Lib.hid (HB414.out.trans (hb15.mono HB414.out.size))
              have Hbe := Lib.hid (show BeenM w15 w4.heap.size (r2.reverse ++ [(⟨⟨q.x.f, q.x.n, q.x.h + (takesL p.plain yf yn).1, q.x.been⟩, q.g⟩ : FrM)]) from by
                have h1 : L' = (q :: r2).reverse ++ [⟨⟨yf, yn, yh, y.x.been.set yn true⟩, yg⟩] := by
                  have h2 := List.take_append_drop (K1 + 1) L'
                  rw [← h2, HL'.out.2.2.1, List.drop_eq_getElem_cons (by rw [HL'.out.1]; omega)]
                  have h3 := (List.getElem?_eq_some_iff.1 HL'.out.2.1).2
                  rw [h3, List.drop_of_length_le (by rw [HL'.out.1]; omega)]
                have h4 := HL'.out.2.2.2.2.2.2.below hb15
                rw [h1, List.reverse_cons] at h4
                exact h4.front.congr (by rw [List.map_append, List.map_append]; rfl))
              have Hwk := Lib.hid (hG)
              have Hlen2 := Lib.hid (show (r2.reverse ++ [(⟨⟨q.x.f, q.x.n, q.x.h + (takesL p.plain yf yn).1, q.x.been⟩, q.g⟩ : FrM)]).length = K1 + 1 from by simp [Hr2.out])
              have hnil := fun w' => eqF_nil w' gl2 (K1 + 1) c'
              clear hO15 hb15 hgl2
              by_cases h200 : 200 < (K1 : Int) + 1
              · go_wp2_with fail
                refine (head13_any _).mono ?_
                rintro e w16 ⟨rfl, hb16⟩
                have HB16 := Lib.hid (HB4.out.trans ((HB415.out.trans (hb16.mono HB415.out.size)).mono HB4.out.size))
                clear hb16
                go_wp2_with fail
                go_ret
                exact ⟨rfl, HB16.out⟩
              · go_wp2_with fail
                go_roundw
                case measure => simp [intOf]; omega
                case rel => exact ⟨⟨r2.reverse ++ [(⟨⟨q.x.f, q.x.n, q.x.h + (takesL p.plain yf yn).1, q.x.been⟩, q.g⟩ : FrM)], r2, (⟨⟨q.x.f, q.x.n, q.x.h + (takesL p.plain yf yn).1, q.x.been⟩, q.g⟩ : FrM), K1, gl2, c', d + 1, rfl, by first | rfl | go_num, by omega, by omega, Lib.hid ⟨Hlen2.out, Hwk.out⟩, HO15.out, Hbe, HB415.out⟩⟩
          · have o18b : (op == 18) = false := by simpa using o18
            by_cases o17 : op = 17
            · as_aux_lemma =>
              subst o17
              obtain ⟨z, hz, hzl, -, -, -, -, -, -, -⟩ := HWk.out.1.top.callee Hok.out Hi.out rfl
              dsimp only at hz
              subst hz
              obtain ⟨bq, -, -, -, -, hnxG, -⟩ := HWk.out.1.top.stand Hok.out Hi.out
              rw [← HyE.out.1, ← HyE.out.2.1, call_goes rfl] at hnxG
              have hT := HII.out
              have HCw := Lib.hid (walkedC p L' K gl cL ⟨⟨yf, yn, yh, y.x.been.set yn true⟩, yg⟩ 17 (z : Int) pk w14 HP14.out HL'.out.2.2.2.1 HL'.out.1 (by omega) hcap HL'.out.2.1 (by have := HL'.out.2.2.2.2.1; dsimp only; omega) HL'.out.2.2.2.2.2.1 hT.t0 hT.t1 hT.g0 hT.g1 z (by rw [← Hn.out, ← Hlen.out.2.2.2]; exact hzl) hnxG (good_len Hok.out.good z) rfl rfl)
              dsimp only at HCw
              rw [HL'.out.2.2.1, ← HPg.out] at HCw
              clear hT
              go_wp2_with fail
              refine HCw.out.mono ?_
              rintro e w15 ⟨A', c', gB, rfl, hO15, hLB, hb15⟩
              have hG := HWk.out.1.call Hok.out Hi.out rfl gB (z := z) rfl
              rw [← HyE.out.1, ← HyE.out.2.1, ← HyE.out.2.2.1, ← HyE.out.2.2.2.1] at hG
              obtain ⟨gl2, rfl, hgl2, -⟩ := own_some hO15 (by omega)
              have HO15 := Lib.hid ((by simpa [List.append_assoc] using hO15 : Own _ _ 63 4 _ (K + 1 + 1) _ ((r.reverse ++ [(⟨⟨yf, yn + 1, yh - (takesL p.plain yf yn).1, y.x.been.set yn true⟩, yg⟩ : FrM)] ++ [(⟨⟨z, 0, 0, List.replicate (p.plain.len z) false⟩, gB⟩ : FrM)]).flatMap frCells)).mono HB414.out.size)
              have HB415 := Lib.hid (HB414.out.trans (hb15.mono HB414.out.size))
              have Hbe := Lib.hid (show BeenM w15 w4.heap.size (r.reverse ++ [(⟨⟨yf, yn + 1, yh - (takesL p.plain yf yn).1, y.x.been.set yn true⟩, yg⟩ : FrM)] ++ [(⟨⟨z, 0, 0, List.replicate (p.plain.len z) false⟩, gB⟩ : FrM)]) from by
                have h1 : L' = r.reverse ++ [⟨⟨yf, yn, yh, y.x.been.set yn true⟩, yg⟩] := by
                  have h2 := List.take_append_drop K L'
                  rw [← h2, HL'.out.2.2.1, List.drop_eq_getElem_cons (by rw [HL'.out.1]; omega)]
                  have h3 := (List.getElem?_eq_some_iff.1 HL'.out.2.1).2
                  rw [h3, List.drop_of_length_le (by rw [HL'.out.1]; omega)]
                have h2 : BeenM w15 w4.heap.size (r.reverse ++ [(⟨⟨yf, yn + 1, yh - (takesL p.plain yf yn).1, y.x.been.set yn true⟩, yg⟩ : FrM)]) := (HL'.out.2.2.2.2.2.2.below hb15).congr (by
                  rw [h1, List.map_append, List.map_append]
                  rfl)
                have h3 : BeenM w14 w4.heap.size (r.reverse ++ [(⟨⟨yf, yn + 1, yh - (takesL p.plain yf yn).1, y.x.been.set yn true⟩, yg⟩ : FrM)]) := HL'.out.2.2.2.2.2.2.congr (by
                  rw [h1, List.map_append, List.map_append]
                  rfl)
                refine h2.push (b2 := w14.heap.size) ?_ HB414.out.size fun q hq => (h3.lt q hq).2
                show OwnL w15 w14.heap.size (some ⟨gB, 0, none⟩) (List.replicate (p.plain.len z) false).length (List.replicate (p.plain.len z) false).length (List.replicate (p.plain.len z) false)
                rw [List.length_replicate]
                exact hLB)
              have Hwk := Lib.hid (hG)
              have Hlen2 := Lib.hid (show (r.reverse ++ [(⟨⟨yf, yn + 1, yh - (takesL p.plain yf yn).1, y.x.been.set yn true⟩, yg⟩ : FrM)] ++ [(⟨⟨z, 0, 0, List.replicate (p.plain.len z) false⟩, gB⟩ : FrM)]).length = K + 1 + 1 from by simp [Hbl.out.2.2.1])
              have hnil := fun w' => eqF_nil w' gl2 ((K + 1) + 1) c'
              clear hO15 hb15 hgl2
              by_cases h200 : 200 < ((K + 1) : Int) + 1
              · go_wp2_with fail
                refine (head13_any _).mono ?_
                rintro e w16 ⟨rfl, hb16⟩
                have HB16 := Lib.hid (HB4.out.trans ((HB415.out.trans (hb16.mono HB415.out.size)).mono HB4.out.size))
                clear hb16
                go_wp2_with fail
                go_ret
                exact ⟨rfl, HB16.out⟩
              · go_wp2_with fail
                go_roundw
                case measure => simp [intOf]; omega
                case rel => exact ⟨⟨r.reverse ++ [(⟨⟨yf, yn + 1, yh - (takesL p.plain yf yn).1, y.x.been.set yn true⟩, yg⟩ : FrM)] ++ [(⟨⟨z, 0, 0, List.replicate (p.plain.len z) false⟩, gB⟩ : FrM)], ((⟨⟨yf, yn + 1, yh - (takesL p.plain yf yn).1, y.x.been.set yn true⟩, yg⟩ : FrM) :: r), (⟨⟨z, 0, 0, List.replicate (p.plain.len z) false⟩, gB⟩ : FrM), (K + 1), gl2, c', d + 1, rfl, by first | rfl | go_num, by omega, by omega, Lib.hid ⟨Hlen2.out, Hwk.out⟩, HO15.out, Hbe, HB415.out⟩⟩
            · as_aux_lemma =>
              have hT := HII.out
              have o17b : (op == 17) = false := by simpa using o17
              obtain ⟨bq, -, -, -, -, hnxG, -⟩ := HWk.out.1.top.stand Hok.out Hi.out
              rw [← HyE.out.1, ← HyE.out.2.1] at hnxG
              have hne : 0 < (nextL p.plain yf yn).length := by
                rw [hnxG]
                refine Nat.pos_of_ne_zero (goesW_ne ?_)
                exact ⟨o1, o2, o18⟩
              have hnn : ∀ u ∈ nextL p.plain yf yn, 0 ≤ u := fun u hu => hT.goes u (by rw [← hnxG]; exact hu)
              have HCw := Lib.hid (walkedN p L' K gl cL ⟨⟨yf, yn, yh, y.x.been.set yn true⟩, yg⟩ op aa pk w14 HP14.out HL'.out.2.2.2.1 HL'.out.1 (by omega) hcap HL'.out.2.1 (by have := HL'.out.2.2.2.2.1; dsimp only; omega) HL'.out.2.2.2.2.2.1 hT.t0 hT.t1 hT.g0 hT.g1 hne hnn o18 o17)
              dsimp only at HCw
              rw [HL'.out.2.2.1, ← HPg.out] at HCw
              clear hT
              go_wp2_with fail
              refine HCw.out.mono ?_
              rintro e w15 ⟨A', c', v, hv, rfl, hO15, hb15⟩
              have hG := HWk.out.1.go Hok.out Hi.out (v := v) (by rw [← HyE.out.1, ← HyE.out.2.1]; exact hv)
              rw [← HyE.out.1, ← HyE.out.2.1, ← HyE.out.2.2.1, ← HyE.out.2.2.2.1] at hG
              obtain ⟨gl2, rfl, hgl2, -⟩ := own_some hO15 (by omega)
              have HO15 := Lib.hid (hO15.mono HB414.out.size)
              have HB415 := Lib.hid (HB414.out.trans (hb15.mono HB414.out.size))
              have Hbe := Lib.hid (show BeenM w15 w4.heap.size (r.reverse ++ [(⟨⟨yf, v, yh - (takesL p.plain yf yn).1 + (takesL p.plain yf yn).2, y.x.been.set yn true⟩, yg⟩ : FrM)]) from (HL'.out.2.2.2.2.2.2.below hb15).congr (by
                have h1 : L' = r.reverse ++ [⟨⟨yf, yn, yh, y.x.been.set yn true⟩, yg⟩] := by
                  have h2 := List.take_append_drop K L'
                  rw [← h2, HL'.out.2.2.1, List.drop_eq_getElem_cons (by rw [HL'.out.1]; omega)]
                  have h3 := (List.getElem?_eq_some_iff.1 HL'.out.2.1).2
                  rw [h3, List.drop_of_length_le (by rw [HL'.out.1]; omega)]
                rw [h1, List.map_append, List.map_append]
                rfl))
              have Hwk := Lib.hid (hG)
              have Hlen2 := Lib.hid (show (r.reverse ++ [(⟨⟨yf, v, yh - (takesL p.plain yf yn).1 + (takesL p.plain yf yn).2, y.x.been.set yn true⟩, yg⟩ : FrM)]).length = K + 1 from by rw [List.length_append, List.length_reverse, Hbl.out.2.2.1]; rfl)
              have hnil := fun w' => eqF_nil w' gl2 (K + 1) c'
              clear hO15 hb15 hgl2
              by_cases h200 : 200 < (K : Int) + 1
              · go_wp2_with fail
                refine (head13_any _).mono ?_
                rintro e w16 ⟨rfl, hb16⟩
                have HB16 := Lib.hid (HB4.out.trans ((HB415.out.trans (hb16.mono HB415.out.size)).mono HB4.out.size))
                clear hb16
                go_wp2_with fail
                go_ret
                exact ⟨rfl, HB16.out⟩
              · go_wp2_with fail
                go_roundw
                case measure => simp [intOf]; omega
                case rel => exact ⟨⟨r.reverse ++ [(⟨⟨yf, v, yh - (takesL p.plain yf yn).1 + (takesL p.plain yf yn).2, y.x.been.set yn true⟩, yg⟩ : FrM)], r, (⟨⟨yf, v, yh - (takesL p.plain yf yn).1 + (takesL p.plain yf yn).2, y.x.been.set yn true⟩, yg⟩ : FrM), K, gl2, c', d + 1, rfl, by first | rfl | go_num, by omega, by omega, Lib.hid ⟨Hlen2.out, Hwk.out⟩, HO15.out, Hbe, HB415.out⟩⟩
        · have g1 : ¬ (d : Int) < (kS : Int) := by omega
          go_wp2_with fail
          refine (head13_any _).mono ?_
          rintro e w7 ⟨rfl, hb7⟩
          have HB7 := Lib.hid (HB4.out.trans ((HB.out.trans (hb7.mono HB.out.size)).mono HB4.out.size))
          clear hb7
          go_wp2_with fail
          go_ret
          exact ⟨rfl, HB7.out⟩
end Go.Proofs.Ytcmpmhlcfalbhaa
