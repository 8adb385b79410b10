/- Calls under way, plain: heights, places come to twice, cells, costs. -/
import Derived.Test.YtcmpmhlcfalbhaaChV
namespace Go.Proofs.Ytcmpmhlcfalbhaa

/-- A call under way: its function, its place, how many operands it has, where it has been. -/
structure Fr where
  f : Nat
  n : Nat
  h : Int
  been : List Bool
structure BeenOk (P : Prg) (f n : Nat) (been : List Bool) : Prop where
  len : been.length = P.len f
  to_ : ∀ b : Nat, been[b]? = some true → ∃ u ∈ nxF P f b, Reach (nxF P f) u n
structure TopOk (P : Prg) (hs : List (List Int)) (x : Fr) : Prop where
  live : Reach (cg P hs) 0 x.f
  at_ : (hs.getD x.f [])[x.n]? = some x.h
  pos : 0 ≤ x.h
  been : BeenOk P x.f x.n x.been
/-- A caller that waits for a function. -/
structure UndOk (P : Prg) (hs : List (List Int)) (x : Fr) (z : Nat) : Prop where
  live : Reach (cg P hs) 0 x.f
  call : ∃ (m : Nat) (i : Ins) (q : Int), P.ins x.f m = some i ∧ i.op = 17 ∧ i.a = z ∧ (hs.getD x.f [])[m]? = some q ∧ 0 ≤ q ∧ x.n = m + 1 ∧ x.h = q - P.args z
  been : BeenOk P x.f x.n x.been
/-- All callers, the last one first. -/
def UndAll (P : Prg) (hs : List (List Int)) : Nat → List Fr → Prop
  | z, [] => z = 0
  | z, y :: r => UndOk P hs y z ∧ UndAll P hs y.f r
def sumC (P : Prg) : List Fr → Int
  | [] => 0
  | y :: r => 1 + P.locals y.f + y.h + sumC P r
def sumK (P : Prg) : List Fr → Int
  | [] => 0
  | y :: r => pcL P y.f (kcL P) y.n + sumK P r
section
variable {P : Prg} {hs : List (List Int)} {tops : List Int} {lps : List (List Int)} {live : List Bool} {ce co : Int}
theorem FactsOk.flt (F : FactsOk P hs tops lps live ce co) {f : Nat} (h : Reach (cg P hs) 0 f) : f < P.fs.length := reach_lt F.good h
theorem FactsOk.fln (F : FactsOk P hs tops lps live ce co) {f : Nat} (h : Reach (cg P hs) 0 f) : (hs.getD f []).length = P.len f := (F.fin f (F.flt h)).len
theorem first_ok (F : FactsOk P hs tops lps live ce co) : TopOk P hs ⟨0, 0, 0, List.replicate (P.len 0) false⟩ :=
  ⟨.refl 0, (F.fin 0 (F.flt (.refl 0))).zero, Int.le_refl 0, ⟨by simp, fun b hb => by rw [List.getElem?_replicate] at hb; split at hb <;> cases hb⟩⟩
section
variable {x : Fr} {i : Ins}
/-- What stands at the top: its instruction fits. -/
theorem TopOk.ins (F : FactsOk P hs tops lps live ce co) (H : TopOk P hs x) : ∃ i, P.ins x.f x.n = some i :=
  Prg.ins_ex (by rw [← F.fln H.live]; exact (List.getElem?_eq_some_iff.1 H.at_).1)
theorem TopOk.reach (F : FactsOk P hs tops lps live ce co) (H : TopOk P hs x) : Reach (nxF P x.f) 0 x.n := (F.fin _ (F.flt H.live)).come x.n x.h H.at_ (by have := H.pos; omega)
theorem TopOk.stand (F : FactsOk P hs tops lps live ce co) (H : TopOk P hs x) (hi : P.ins x.f x.n = some i) :
    ∃ b, standI P x.f x.n i x.h = (0, b) ∧ b = x.h - (takesL P x.f x.n).1 + (takesL P x.f x.n).2 ∧ 0 ≤ b ∧ b ≤ 256 ∧ nextL P x.f x.n = goesL i x.n ∧ ∀ u ∈ nxF P x.f x.n, (hs.getD x.f [])[u]? = some b := by
  have hF := F.fin _ (F.flt H.live)
  have hn : x.h ≠ -1 := by have := H.pos; omega
  obtain ⟨b, e, h1⟩ := hF.fit x.n x.h i H.at_ hn hi
  obtain ⟨h2, h3, h4, -, -⟩ := stand_ok (ins_facts F.lead.chk hi) H.pos e
  exact ⟨b, e, h2, h3, h4, hF.next F.lead.chk H.at_ hn hi, fun u hu => h1 u (nxF_go hi hu)⟩
/-- Who is come to again is among those that are. -/
theorem TopOk.again (F : FactsOk P hs tops lps live ce co) (H : TopOk P hs x) (hb : x.been[x.n]? = some true) : ((x.n : Nat) : Int) ∈ lps.getD x.f [] := by
  classical
  rw [F.loops _ (F.flt H.live)]
  unfold loopsL
  refine List.mem_map.2 ⟨x.n, List.mem_filter.2 ⟨List.mem_range.2 ?_, decide_eq_true ⟨H.reach F, H.been.to_ x.n hb⟩⟩, rfl⟩
  rw [← F.fln H.live]
  exact (List.getElem?_eq_some_iff.1 H.at_).1
theorem been_set {f n v : Nat} {l : List Bool} (H : BeenOk P f n l) (hv : v ∈ nxF P f n) : BeenOk P f v (l.set n true) := by
  refine ⟨by rw [List.length_set]; exact H.len, fun b hb => ?_⟩
  rcases set_get hb with ⟨rfl, -⟩ | ⟨-, hb⟩
  · exact ⟨v, hv, .refl v⟩
  · obtain ⟨u, h1, h2⟩ := H.to_ b hb
    exact ⟨u, h1, h2.trans (.one hv)⟩
theorem TopOk.go (F : FactsOk P hs tops lps live ce co) (H : TopOk P hs x) (hi : P.ins x.f x.n = some i) {v : Nat} (hv : v ∈ nxF P x.f x.n) : TopOk P hs ⟨x.f, v, x.h - (takesL P x.f x.n).1 + (takesL P x.f x.n).2, x.been.set x.n true⟩ := by
  obtain ⟨b, -, h2, h3, -, -, h6⟩ := H.stand F hi
  rw [← h2]
  exact ⟨H.live, h6 v hv, h3, been_set H.been hv⟩
theorem call_goes (h17 : i.op = 17) (n : Nat) : goesL i n = [(n : Int) + 1] := by
  unfold goesL
  rw [if_neg (by omega), if_neg (by omega), if_neg (by omega), if_neg (by omega)]
theorem TopOk.callee (F : FactsOk P hs tops lps live ce co) (H : TopOk P hs x) (hi : P.ins x.f x.n = some i) (h17 : i.op = 17) :
    ∃ z : Nat, i.a = z ∧ z < P.fs.length ∧ Reach (cg P hs) 0 z ∧ TopOk P hs ⟨z, 0, 0, List.replicate (P.len z) false⟩ ∧ UndOk P hs ⟨x.f, x.n + 1, x.h - (takesL P x.f x.n).1, x.been.set x.n true⟩ z ∧ takesL P x.f x.n = (P.args z, P.results z) ∧ x.n ∈ callsN P hs x.f ∧ P.aOf x.f x.n = z ∧ x.n + 1 ∈ nxF P x.f x.n := by
  have hh : 0 ≤ htAt hs x.f x.n := by
    unfold htAt
    rw [List.getD_eq_getElem?_getD (l := hs.getD x.f []), H.at_]
    exact H.pos
  have hmc := mem_callsN (Prg.ins_lt hi) hi h17 hh
  have hz0 : 0 ≤ i.a ∧ i.a < (P.fs.length : Int) := by
    obtain ⟨j, h1, h2, h3, h4, -⟩ := good_call F.good hmc
    rw [hi] at h1
    obtain rfl := Option.some.inj h1
    omega
  obtain ⟨z, hz⟩ := Int.eq_ofNat_of_zero_le hz0.1
  have ha : P.aOf x.f x.n = z := by unfold Prg.aOf; rw [hi]; dsimp only; omega
  have hr : Reach (cg P hs) 0 z := H.live.trans (.one (List.mem_map.2 ⟨x.n, hmc, ha⟩))
  have hzl : z < P.fs.length := by omega
  have ht : takesL P x.f x.n = (P.args z, P.results z) := by
    unfold takesL
    rw [hi]
    show takesI P x.f i = _
    rw [takesI_17 h17, if_neg (by omega), hz]
  obtain ⟨b, -, h2, h3, -, h5, h6⟩ := H.stand F hi
  have hv : x.n + 1 ∈ nxF P x.f x.n := by
    unfold nxF
    rw [h5, call_goes h17]
    exact List.mem_map.2 ⟨(x.n : Int) + 1, List.mem_singleton.2 rfl, by omega⟩
  refine ⟨z, hz, hzl, hr, ⟨hr, (F.fin z hzl).zero, Int.le_refl 0, ⟨by simp, fun b hb => by rw [List.getElem?_replicate] at hb; split at hb <;> cases hb⟩⟩, ⟨H.live, ⟨x.n, i, x.h, hi, h17, hz, H.at_, H.pos, rfl, by rw [ht]⟩, been_set H.been hv⟩, ht, hmc, ha, hv⟩
/-- Behind a return the caller stands at the top. -/
theorem UndOk.back (F : FactsOk P hs tops lps live ce co) {y : Fr} {z : Nat} (H : UndOk P hs y z) : TopOk P hs ⟨y.f, y.n, y.h + P.results z, y.been⟩ := by
  obtain ⟨m, i, q, hi, h17, ha, hq, h0, hn, hh⟩ := H.call
  have hT : TopOk P hs ⟨y.f, m, q, List.replicate (P.len y.f) false⟩ := ⟨H.live, hq, h0, ⟨by simp, fun b hb => by rw [List.getElem?_replicate] at hb; split at hb <;> cases hb⟩⟩
  obtain ⟨z', hz', -, -, -, -, ht, -, -, hv⟩ := hT.callee F hi h17
  obtain rfl : z' = z := by omega
  obtain ⟨b, -, h2, h3, -, -, h6⟩ := hT.stand F hi
  dsimp only at h2 h6 hv ht
  rw [ht] at h2
  have h7 := h6 (m + 1) hv
  have e : y.h + P.results z' = b := by rw [h2, hh]
  exact ⟨H.live, by dsimp only; rw [hn, e]; exact h7, by dsimp only; omega, H.been⟩
end
/-! ### Cells -/
theorem fold_ge (g : Nat → Int) : ∀ (l : List Nat) (x : Int), x ≤ l.foldl (fun m n => max m (g n)) x ∧ ∀ n ∈ l, g n ≤ l.foldl (fun m n => max m (g n)) x
  | [], x => ⟨Int.le_refl x, fun n hn => by cases hn⟩
  | a :: l, x => by
    obtain ⟨h1, h2⟩ := fold_ge g l (max x (g a))
    rw [List.foldl_cons]
    refine ⟨by omega, fun n hn => ?_⟩
    rcases List.mem_cons.1 hn with rfl | hn
    · omega
    · exact h2 n hn
theorem top_cells (F : FactsOk P hs tops lps live ce co) {c : Nat → Int} (hc : CellsEq P hs tops c) {x : Fr} (H : TopOk P hs x) : 1 + P.locals x.f + x.h ≤ c x.f := by
  have hlt := F.flt H.live
  rw [hc x.f hlt H.live]
  have h1 := ((F.top x.f hlt).le x.n x.h H.at_ (by have := H.pos; omega)).1
  have h2 := (fold_ge (fun n => htAt hs x.f n - P.args (P.aOf x.f n) + c (P.aOf x.f n)) ((callsN P hs x.f).take (callsN P hs x.f).length) (tops.getD x.f 0)).1
  unfold cellsTo
  omega
theorem und_cells (F : FactsOk P hs tops lps live ce co) {c : Nat → Int} (hc : CellsEq P hs tops c) : ∀ (r : List Fr) (z : Nat), UndAll P hs z r → c z + sumC P r ≤ c 0
  | [], z, h => by rw [show z = 0 from h]; unfold sumC; omega
  | y :: r, z, ⟨h, hr⟩ => by
    have ih := und_cells F hc r y.f hr
    have hlt := F.flt h.live
    obtain ⟨m, i, q, hi, h17, ha, hq, h0, hn, hh⟩ := h.call
    have hT : TopOk P hs ⟨y.f, m, q, List.replicate (P.len y.f) false⟩ := ⟨h.live, hq, h0, ⟨by simp, fun b hb => by rw [List.getElem?_replicate] at hb; split at hb <;> cases hb⟩⟩
    obtain ⟨z', hz', -, -, -, -, -, hmc, haof, -⟩ := hT.callee F hi h17
    obtain rfl : z' = z := by omega
    have h2 := (fold_ge (fun n => htAt hs y.f n - P.args (P.aOf y.f n) + c (P.aOf y.f n)) ((callsN P hs y.f).take (callsN P hs y.f).length) (tops.getD y.f 0)).2 m (by rw [List.take_length]; exact hmc)
    have h3 : htAt hs y.f m = q := by
      unfold htAt
      rw [List.getD_eq_getElem?_getD (l := hs.getD y.f []), hq]
      rfl
    dsimp only at haof h2
    rw [haof, h3] at h2
    have h4 := hc y.f hlt h.live
    unfold cellsTo at h4
    unfold sumC
    omega
/-! ### Costs -/
theorem strt_of (F : FactsOk P hs tops lps live ce co) (ha : Acyc P hs) (hs' : Str P hs) : Strt P hs := ⟨ha, hs', F.fin, F.lh⟩
theorem cost_ge {f : Nat} {c : Nat → Int} {n u : Nat} (hu : u ∈ nxF P f n) : c u ≤ costTo P f c n (nxF P f n).length := by
  unfold costTo
  rw [List.take_length]
  exact (fold_ge c (nxF P f n) 0).2 u hu
theorem cost_go (F : FactsOk P hs tops lps live ce co) (S : Strt P hs) {x : Fr} (H : TopOk P hs x) {v : Nat} (hv : v ∈ nxF P x.f x.n) (hm : pcL P x.f (kcL P) x.n < mostC) : pcL P x.f (kcL P) v + 1 ≤ pcL P x.f (kcL P) x.n := by
  have h1 := pc_eq S F.good H.live (H.reach F) (kcL P)
  have h2 := cost_ge (c := pcL P x.f (kcL P)) hv
  have h3 := (callC_pos (P := P) (f := x.f) (n := x.n)).1
  omega
theorem cost_call (F : FactsOk P hs tops lps live ce co) (S : Strt P hs) {x : Fr} (H : TopOk P hs x) {i : Ins} (hi : P.ins x.f x.n = some i) (h17 : i.op = 17) {z : Nat} (hz : i.a = z) (hr : Reach (cg P hs) 0 z) (hv : x.n + 1 ∈ nxF P x.f x.n) (hm : pcL P x.f (kcL P) x.n < mostC) :
    pcL P z (kcL P) 0 + pcL P x.f (kcL P) (x.n + 1) + 1 ≤ pcL P x.f (kcL P) x.n := by
  have h1 := pc_eq S F.good H.live (H.reach F) (kcL P)
  have h2 := cost_ge (c := pcL P x.f (kcL P)) hv
  have h3 : callC P x.f (kcL P) x.n = pcL P z (kcL P) 0 := by
    unfold callC
    rw [hi]
    dsimp only
    rw [if_pos h17, hz, Int.toNat_natCast, kc_eq S F.good hr]
  omega
theorem sumK_pos : ∀ r : List Fr, 0 ≤ sumK P r
  | [] => Int.le_refl 0
  | y :: r => by
    have h1 := sumK_pos r
    have h2 := (pc_pos (P := P) (f := y.f) (n := y.n)).1
    unfold sumK
    omega
end
end Go.Proofs.Ytcmpmhlcfalbhaa
