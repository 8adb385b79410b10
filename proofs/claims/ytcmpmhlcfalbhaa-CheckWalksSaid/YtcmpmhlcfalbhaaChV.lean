/- What Run finds is one thing; what it finds of two small programs: plain. -/
import Derived.Test.YtcmpmhlcfalbhaaChT
namespace Go.Proofs.Ytcmpmhlcfalbhaa

section
variable {P : Prg} {hs lps : List (List Int)} {tops : List Int} {live : List Bool} {ce co : Int}
theorem len_pos {f : Nat} (hg : checkL P = 0) (hf : f < P.fs.length) : 0 < P.len f := by
  have h := (good_fn hg (List.getElem_mem hf)).c0
  rw [Prg.len_of (List.getElem?_eq_getElem hf)]
  omega
theorem FactsOk.noBad (h : FactsOk P hs tops lps live ce co) {x : Int × Int × Int} (hb : BadAt P x) : False := by
  rcases hb with ⟨h1, -⟩ | ⟨-, h2, -⟩ | ⟨-, h3⟩ | ⟨-, -, f, n, er, hf, -, hR, -, -⟩
  · exact h1 h.lead.chk
  · rcases h2 with h2 | h2
    · exact h2 h.lead.args
    · exact h2 h.lead.results
  · rw [h.good.ops] at h3; cases h3
  · have := fin_runs (h.fin f hf) h.lead.chk (len_pos h.lead.chk hf) hR
    cases this
theorem BadAt.unique {x y : Int × Int × Int} (hx : BadAt P x) (hy : BadAt P y) : x = y := by
  have lead2 : Lead P → ¬ (P.args 0 ≠ 0 ∨ P.results 0 ≠ 1) := fun h e => e.elim (fun e => e h.args) (fun e => e h.results)
  rcases hx with ⟨h1, e1⟩ | ⟨h1, h2, e1⟩ | ⟨h1, h2⟩ | ⟨h1, h2, f, n, er, hf, hg, hR, he, e1⟩
  · rcases hy with ⟨k1, e2⟩ | ⟨k1, -⟩ | ⟨k1, -⟩ | ⟨k1, -⟩
    · rw [e1, e2]
    · exact absurd k1 h1
    · exact absurd k1.chk h1
    · exact absurd k1.chk h1
  · rcases hy with ⟨k1, e2⟩ | ⟨k1, -, e2⟩ | ⟨k1, -⟩ | ⟨k1, -⟩
    · exact absurd h1 k1
    · rw [e1, e2]
    · exact absurd h2 (lead2 k1)
    · exact absurd h2 (lead2 k1)
  · rcases hy with ⟨k1, e2⟩ | ⟨k1, k2, e2⟩ | ⟨k1, k2⟩ | ⟨k1, k2, -⟩
    · exact absurd h1.chk k1
    · exact absurd k2 (lead2 h1)
    · rw [h2] at k2; injection k2
    · rw [h2] at k2; cases k2
  · rcases hy with ⟨k1, e2⟩ | ⟨k1, k2, e2⟩ | ⟨k1, k2⟩ | ⟨k1, k2, f', n', er', hf', hg', hR', he', e2⟩
    · exact absurd h1.chk k1
    · exact absurd k2 (lead2 h1)
    · rw [h2] at k2; cases k2
    · rcases Nat.lt_trichotomy f f' with h | h | h
      · obtain ⟨k, hk⟩ := hg' f h
        have := fin_runs hk h1.chk (len_pos h1.chk hf) hR
        cases this
      · subst h
        have := hR.det hR'
        injection this with this
        injection this with e3 e4
        rw [e1, e2, e3, e4]
      · obtain ⟨k, hk⟩ := hg f' h
        have := fin_runs hk h1.chk (len_pos h1.chk hf') hR'
        cases this
theorem FactsOk.heights {hs' lps' : List (List Int)} {tops' : List Int} {live' : List Bool} {ce' co' : Int} (h : FactsOk P hs tops lps live ce co) (k : FactsOk P hs' tops' lps' live' ce' co') : hs = hs' := by
  refine List.ext_getElem (by rw [h.lh, k.lh]) fun f h1 h2 => ?_
  have hf : f < P.fs.length := by rw [← h.lh]; exact h1
  have h3 := h.fin f hf
  have h4 := k.fin f hf
  rw [List.getD_eq_getElem?_getD, List.getElem?_eq_getElem h1] at h3
  rw [List.getD_eq_getElem?_getD, List.getElem?_eq_getElem h2] at h4
  exact h3.unique h4 h.lead.chk
theorem cells_one {c c' : Nat → Int} (hg : Good P) (ha : Acyc P hs) (h : CellsEq P hs tops c) (k : CellsEq P hs tops c') : c 0 = c' 0 := by
  have key : ∀ (m f : Nat), rk (cg P hs) P.fs.length f < m → Reach (cg P hs) 0 f → c f = c' f := by
    intro m
    induction m with
    | zero => intro f hm; omega
    | succ m ih =>
      intro f hm hr
      have hf := reach_lt hg hr
      rw [h f hf hr, k f hf hr]
      have e : ∀ (l : List Nat) (x : Int), (∀ n ∈ l, n ∈ callsN P hs f) → l.foldl (fun m n => max m (htAt hs f n - P.args (P.aOf f n) + c (P.aOf f n))) x = l.foldl (fun m n => max m (htAt hs f n - P.args (P.aOf f n) + c' (P.aOf f n))) x := by
        intro l
        induction l with
        | nil => intro x _; rfl
        | cons a l ihl =>
          intro x hl
          have hu : P.aOf f a ∈ cg P hs f := List.mem_map.2 ⟨a, hl a (List.mem_cons_self ..), rfl⟩
          rw [List.foldl_cons, List.foldl_cons, ih _ (by have := rk_lt (n := P.fs.length) hf hu (ha f hr); omega) (hr.trans (.one hu))]
          exact ihl _ fun n hn => hl n (List.mem_cons_of_mem _ hn)
      unfold cellsTo
      rw [e _ _ fun n hn => List.mem_of_mem_take hn]
  exact key _ 0 (Nat.lt_succ_self _) (.refl 0)
theorem FactsOk.unique {hs' lps' : List (List Int)} {tops' : List Int} {live' : List Bool} {ce' co' : Int} (h : FactsOk P hs tops lps live ce co) (k : FactsOk P hs' tops' lps' live' ce' co') : hs = hs' ∧ tops = tops' ∧ lps = lps' ∧ live = live' ∧ ce = ce' ∧ co = co' := by
  have eh := h.heights k
  subst eh
  have et : tops = tops' := by
    refine List.ext_getElem (by rw [h.lt, k.lt]) fun f h1 h2 => ?_
    have hf : f < P.fs.length := by rw [← h.lt]; exact h1
    have h3 := h.top f hf
    have h4 := k.top f hf
    rw [List.getD_eq_getElem?_getD (l := tops), List.getElem?_eq_getElem h1] at h3
    rw [List.getD_eq_getElem?_getD (l := tops'), List.getElem?_eq_getElem h2] at h4
    exact h3.unique h4
  subst et
  have el : lps = lps' := by
    refine List.ext_getElem (by rw [h.ll, k.ll]) fun f h1 h2 => ?_
    have hf : f < P.fs.length := by rw [← h.ll]; exact h1
    have h3 := h.loops f hf
    have h4 := k.loops f hf
    rw [List.getD_eq_getElem?_getD, List.getElem?_eq_getElem h1] at h3
    rw [List.getD_eq_getElem?_getD, List.getElem?_eq_getElem h2] at h4
    exact h3.trans h4.symm
  subst el
  have ev : live = live' := by
    refine List.ext_getElem (by rw [h.lv, k.lv]) fun f h1 h2 => ?_
    have h3 := h.live f
    have h4 := k.live f
    rw [List.getElem?_eq_getElem h1] at h3
    rw [List.getElem?_eq_getElem h2] at h4
    have e := h3.trans h4.symm
    cases hx : live[f] <;> cases hy : live'[f] <;> rw [hx, hy] at e <;> simp at e ⊢
  subst ev
  refine ⟨rfl, rfl, rfl, rfl, ?_, ?_⟩
  · rcases h.cells with ⟨h1, h2⟩ | ⟨h1, c, h2, h3⟩
    · rcases k.cells with ⟨k1, k2⟩ | ⟨k1, -⟩
      · rw [h2, k2]
      · exact absurd k1 h1
    · rcases k.cells with ⟨k1, k2⟩ | ⟨k1, c', k2, k3⟩
      · exact absurd h1 k1
      · rw [h3, k3]; exact cells_one h.good h1 h2 k2
  · rcases h.cost with ⟨h1, h2⟩ | ⟨h1, h1', h2⟩
    · rcases k.cost with ⟨k1, k2⟩ | ⟨k1, k1', -⟩
      · rw [h2, k2]
      · exact absurd ⟨k1, k1'⟩ h1
    · rcases k.cost with ⟨k1, k2⟩ | ⟨k1, k1', k2⟩
      · exact absurd ⟨h1, h1'⟩ k1
      · rw [h2, k2]
end
/-! ### Two small programs -/
def codeA : List Ins := [⟨3, 3⟩, ⟨3, 4⟩, ⟨21, 0⟩, ⟨18, 0⟩]
def codeB : List Ins := [⟨3, 3⟩, ⟨4, 0⟩, ⟨21, 0⟩, ⟨18, 0⟩]
def prgA : Prg := ⟨0, [], [⟨0, 0, 1, codeA⟩]⟩
def prgB : Prg := ⟨0, [], [⟨0, 0, 1, codeB⟩]⟩
theorem runA : HRuns prgA 0 (h0L 4) (w0L 4) (.inl [0, 1, 2, 1]) :=
  .step (h' := [0, 1, -1, -1]) (ws' := [false, true, false, false]) (n := 0) (i := ⟨3, 3⟩) (x := 0) (b := 1) (by decide) (by decide) (by decide) (by kernel_rfl) (by kernel_rfl) (by kernel_rfl)
    (.step (h' := [0, 1, 2, -1]) (ws' := [false, false, true, false]) (n := 1) (i := ⟨3, 4⟩) (x := 1) (b := 2) (by decide) (by decide) (by decide) (by kernel_rfl) (by kernel_rfl) (by kernel_rfl)
      (.step (h' := [0, 1, 2, 1]) (ws' := [false, false, false, true]) (n := 2) (i := ⟨21, 0⟩) (x := 2) (b := 1) (by decide) (by decide) (by decide) (by kernel_rfl) (by kernel_rfl) (by kernel_rfl)
        (.step (h' := [0, 1, 2, 1]) (ws' := [false, false, false, false]) (n := 3) (i := ⟨18, 0⟩) (x := 1) (b := 0) (by decide) (by decide) (by decide) (by kernel_rfl) (by kernel_rfl) (by kernel_rfl)
          (.done fun j hj => by
            have := List.mem_of_getElem? hj
            simp at this))))
theorem runB : HRuns prgB 0 (h0L 4) (w0L 4) (.inr (134, 2)) :=
  .step (h' := [0, 1, -1, -1]) (ws' := [false, true, false, false]) (n := 0) (i := ⟨3, 3⟩) (x := 0) (b := 1) (by decide) (by decide) (by decide) (by kernel_rfl) (by kernel_rfl) (by kernel_rfl)
    (.step (h' := [0, 1, 0, -1]) (ws' := [false, false, true, false]) (n := 1) (i := ⟨4, 0⟩) (x := 1) (b := 0) (by decide) (by decide) (by decide) (by kernel_rfl) (by kernel_rfl) (by kernel_rfl)
      (.bad (n := 2) (i := ⟨21, 0⟩) (x := 0) (b := 0) (by decide) (by decide) (by decide) (by kernel_rfl) (by kernel_rfl) (by decide)))
theorem chkA : checkL prgA = 0 := by kernel_rfl
theorem chkB : checkL prgB = 0 := by kernel_rfl
theorem opsA : firstP prgA prgA.fs 0 = none := by kernel_rfl
theorem opsB : firstP prgB prgB.fs 0 = none := by kernel_rfl
theorem leadA : Lead prgA := ⟨chkA, by kernel_rfl, by kernel_rfl⟩
theorem leadB : Lead prgB := ⟨chkB, by kernel_rfl, by kernel_rfl⟩
theorem lenA : prgA.len 0 = 4 := by kernel_rfl
theorem lenB : prgB.len 0 = 4 := by kernel_rfl
theorem finA : HFin prgA 0 [0, 1, 2, 1] := runs_fin chkA (by rw [show ((0 : Nat) : Int) = 0 from rfl, lenA]; decide) (by rw [show ((0 : Nat) : Int) = 0 from rfl, lenA]; exact runA)
theorem bad_B {x : Int × Int × Int} (h : BadAt prgB x) : x = (134, 0, 2) :=
  h.unique (.inr (.inr (.inr ⟨leadB, opsB, 0, 2, 134, by decide, fun g hg => by omega, by rw [show ((0 : Nat) : Int) = 0 from rfl, lenB]; exact runB, by decide, rfl⟩)))
theorem no_ok_B {hs lps : List (List Int)} {tops : List Int} {live : List Bool} {ce co : Int} (h : FactsOk prgB hs tops lps live ce co) : False :=
  h.noBad (.inr (.inr (.inr ⟨leadB, opsB, 0, 2, 134, by decide, fun g hg => by omega, by rw [show ((0 : Nat) : Int) = 0 from rfl, lenB]; exact runB, by decide, rfl⟩)))
theorem no_bad_A {x : Int × Int × Int} (h : BadAt prgA x) : False := by
  rcases h with ⟨h1, -⟩ | ⟨-, h2, -⟩ | ⟨-, h3⟩ | ⟨-, -, f, n, er, hf, -, hR, -, -⟩
  · exact h1 chkA
  · rcases h2 with h2 | h2
    · exact h2 leadA.args
    · exact h2 leadA.results
  · rw [opsA] at h3; cases h3
  · have hf0 : f = 0 := by
      have : prgA.fs.length = 1 := rfl
      omega
    subst hf0
    have := fin_runs finA chkA (by rw [show ((0 : Nat) : Int) = 0 from rfl, lenA]; decide) hR
    cases this
theorem insA {f n : Nat} {i : Ins} (h : prgA.ins f n = some i) : i ∈ codeA := by
  obtain ⟨g, hg, hi⟩ := Prg.fn_of h
  have hm : g ∈ prgA.fs := List.mem_of_getElem? hg
  have hg2 : g = ⟨0, 0, 1, codeA⟩ := by simpa [prgA] using hm
  rw [hg2] at hi
  exact List.mem_of_getElem? hi
theorem callA (hs : List (List Int)) (f : Nat) : callsN prgA hs f = [] := by
  unfold callsN
  rw [List.filter_eq_nil_iff]
  intro n _ h
  unfold isCall at h
  cases hi : prgA.ins f n with
  | none => rw [hi] at h; cases h
  | some i =>
    rw [hi] at h
    have hm := insA hi
    simp [codeA] at hm
    rcases hm with rfl | rfl | rfl | rfl <;> simp at h
theorem cgA (hs : List (List Int)) (f : Nat) : cg prgA hs f = [] := by unfold cg; rw [callA]; rfl
theorem goA {f n u : Nat} (h : u ∈ nxF prgA f n) : u = n + 1 := by
  unfold nxF nextL at h
  cases hi : prgA.ins f n with
  | none => rw [hi] at h; simp at h
  | some i =>
    rw [hi] at h
    obtain ⟨x, hx, rfl⟩ := List.mem_map.1 h
    have hx2 := (List.mem_filter.1 hx).1
    have hm := insA hi
    simp only [codeA, List.mem_cons, List.not_mem_nil, or_false] at hm
    rcases hm with rfl | rfl | rfl | rfl <;> simp [goesL] at hx2 <;> omega
theorem reachA {f a b : Nat} (h : Reach (nxF prgA f) a b) : a ≤ b := by
  induction h with
  | refl => exact Nat.le_refl _
  | step h1 _ ih => have := goA h1; omega
theorem acycA (hs : List (List Int)) : Acyc prgA hs := fun v _ ⟨u, hu, _⟩ => by rw [cgA] at hu; cases hu
theorem strA (hs : List (List Int)) : Str prgA hs := fun f _ n _ ⟨u, hu, hr⟩ => by
  have := goA hu
  have := reachA hr
  omega
theorem topA : TopF prgA 0 [0, 1, 2, 1] 2 := by
  have t0 : takesL prgA ((0 : Nat) : Int) ((0 : Nat) : Int) = (0, 1) := by kernel_rfl
  have t1 : takesL prgA ((0 : Nat) : Int) ((1 : Nat) : Int) = (0, 1) := by kernel_rfl
  have t2 : takesL prgA ((0 : Nat) : Int) ((2 : Nat) : Int) = (2, 1) := by kernel_rfl
  have t3 : takesL prgA ((0 : Nat) : Int) ((3 : Nat) : Int) = (1, 0) := by kernel_rfl
  refine ⟨by decide, fun j x hx _ => ?_, .inr ⟨2, 2, rfl, by decide, .inl rfl⟩⟩
  match j, hx with
  | 0, hx => rw [t0]; simp at hx; omega
  | 1, hx => rw [t1]; simp at hx; omega
  | 2, hx => rw [t2]; simp at hx; omega
  | 3, hx => rw [t3]; simp at hx; omega
  | j + 4, hx => simp at hx
theorem costA : kcL prgA 0 = 4 := by kernel_rfl
theorem locA : prgA.locals 0 = 0 := by kernel_rfl
theorem ok_A {hs lps : List (List Int)} {tops : List Int} {live : List Bool} {ce co : Int} (h : FactsOk prgA hs tops lps live ce co) : hs = [[0, 1, 2, 1]] ∧ ce = 3 ∧ co = 4 := by
  have hl : prgA.fs.length = 1 := rfl
  have e1 : hs = [[0, 1, 2, 1]] := by
    have h1 := h.lh
    have h2 := (h.fin 0 (by decide)).unique finA chkA
    match hs, h1, h2 with
    | [a], _, h2 => simp at h2; rw [h2]
  subst e1
  have e2 : tops = [2] := by
    have h1 := h.lt
    have h2 := (h.top 0 (by decide)).unique topA
    match tops, h1, h2 with
    | [a], _, h2 => simp at h2; rw [h2]
  subst e2
  refine ⟨rfl, ?_, ?_⟩
  · rcases h.cells with ⟨h1, -⟩ | ⟨-, c, h2, h3⟩
    · exact absurd (acycA _) h1
    · rw [h3, h2 0 (by decide) (.refl 0), callA]
      have e := locA
      simp only [Int.natCast_zero] at e ⊢
      rw [e]
      rfl
  · rcases h.cost with ⟨h1, -⟩ | ⟨-, -, h3⟩
    · exact absurd ⟨acycA _, strA _⟩ h1
    · rw [h3, costA]; rfl
end Go.Proofs.Ytcmpmhlcfalbhaa
