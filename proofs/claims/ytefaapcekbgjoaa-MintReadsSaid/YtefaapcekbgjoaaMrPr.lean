/- The reference's read of a script. -/
import Derived.Test.YtefaapcekbgjoaaMrPc
import Derived.Test.YtefaapcekbgjoaaMrU
namespace Go.Proofs.Ytefaapcekbgjoaa
open Go.RowKit

theorem ptrR_info : (Try.prog.info? 114).map (fun i => (i.zero, i.size, i.bytes)) = some (some (.pointer none), 1, 8) := by kernel_rfl
theorem ePtrR : Elem Try.prog 65 114 1 8 := elem_of Try.underlying65 ptrR_info rfl (by decide)
theorem intR_info : (Try.prog.info? 3).map (fun i => (i.zero, i.size, i.bytes)) = some (some (.int .i64 0), 1, 8) := by kernel_rfl
theorem eIntR : Elem Try.prog 66 3 1 8 := elem_of Try.underlying66 intR_info rfl (by decide)
theorem run_cutR (w : World) (g n c m : Nat) (hm : m ≤ c) : (Instr.slice 65 (.slice (some ⟨g, 0, none⟩) n c) none (some (.int .i64 (m : Int))) none).run Try.prog w = .ok (.slice (some ⟨g, 0, none⟩) m c) w := by
  have hs : Try.prog.underlying 65 = some (.slice (Try.prog.elem 65)) := by kernel_rfl
  have hz : (sizeOf (Try.prog.elem 65)).run Try.prog w = .ok 1 w := by kernel_rfl
  rw [run_slice_h w _ _ _ _ hs _ _ (by omega) (by omega), hz, Result.andThen_ok]
  unfold sliced
  rw [Int.toNat_natCast]
  simp [Addr.add]
def PReadPost (L : List PCall) (N : Int) (B gp : Nat) (AC : Option Addr) (nC cC : Nat) (st : PS) (gs : List Nat) (bs : List UInt8) (w : World) (e : Ending) (w' : World) : Prop :=
  ∃ (out : POut) (T2 : List (Option Addr × Nat)) (l2 : Sl3) (g : Nat), Runs L (st.push bs) N out ∧ Only (fun b => B ≤ b) w w' ∧
    match out with
    | .ok s2 => Bnd s2 ∧ e = .returned (.tuple #[.int .i64 (s2.tail gs.length), .bool true]) ∧ PlM w' B gp AC nC cC s2.at_ (gs ++ [g]) s2.told T2 s2.ret s2.many l2 ∧ RfM w' B (gs ++ [g]) s2.rs none
    | .thrown j f s2 => Bnd s2 ∧ f ≠ 0 ∧ ((j = gs.length ∧ e = .returned (.tuple #[.int .i64 f, .bool true])) ∨ (j < gs.length ∧ e = .returned (.tuple #[.int .i64 0, .bool false]))) ∧
        PlM w' B gp AC nC cC s2.at_ (gs ++ [g]) s2.told T2 s2.ret s2.many l2 ∧ RfM w' B (gs ++ [g]) (s2.rs.take (gs.length + 1)) (some (j, f))
/-- What read does, while at most m calls are left. -/
def PReadC (L : List PCall) (B gp : Nat) (AC : Option Addr) (nC cC m : Nat) : Prop :=
  ∀ (st : PS) (gs : List Nat) (TA : List (Option Addr × Nat)) (l : Sl3) (N : Int) (w : World) (A : Option Addr) (cb : Nat) (bs : List UInt8), min L.length 400 - st.at_ ≤ m → CallsR w B AC L → B ≤ w.heap.size →
    PlM w B gp AC nC cC st.at_ gs st.told TA st.ret st.many l → RfM w B gs st.rs none → st.told.length ≤ st.at_ → st.ret.length + gs.length ≤ st.at_ → st.many ≤ st.at_ → st.at_ ≤ 400 → Sl w ⟨A, cb, bs⟩ → bs.length ≤ 140737488351232 ∧ bs.length ≤ cb → (0 < bs.length → ∀ b o, A = some ⟨b, o, none⟩ → b < B) → gs.length < 20 →
    Calls Try.prog 38 #[pv gp, .slice A bs.length cb, .int .i64 N] w (PReadPost L N B gp AC nC cC st gs bs w)
theorem RfM.lt {w : World} {B : Nat} {gs : List Nat} {rs : List (List UInt8 × Nat)} (h : RfM w B gs rs none) : ∀ g ∈ gs, g < w.heap.size := fun g hg => by
  obtain ⟨i, hi⟩ := List.mem_iff_getElem?.1 hg
  have hl := (List.getElem?_eq_some_iff.1 hi).1
  obtain ⟨A, c, h1, -⟩ := h.good i g _ hi (List.getElem?_eq_getElem (by rw [← h.len]; exact hl)) (fun y e => by cases e)
  exact h1.blk.lt
theorem RfM.err {w : World} {B : Nat} {gs : List Nat} {rs : List (List UInt8 × Nat)} {x : Option (Nat × Int)} (h : RfM w B gs rs x) (k : Nat) (hk : k < gs.length) :
    ∃ g f, gs[k]? = some g ∧ w.cell? ⟨g, 2, none⟩ = some (.int .i64 f) ∧ g < w.heap.size ∧ ((∀ y, x = some y → y.1 ≠ k) → f = 0) ∧ ∀ y, x = some y → y.1 = k → f = y.2 := by
  obtain ⟨g, hg⟩ : ∃ g, gs[k]? = some g := ⟨_, List.getElem?_eq_getElem hk⟩
  by_cases hx : ∃ y, x = some y ∧ y.1 = k
  · obtain ⟨y, hy, hyk⟩ := hx
    obtain ⟨A, c, bs, a, h1, -⟩ := h.bad y g hy (by rw [hyk]; exact hg)
    exact ⟨g, y.2, hg, h1.c2, h1.blk.lt, fun h2 => absurd hyk (h2 y hy), fun z hz _ => by rw [hy] at hz; injection hz with hz; rw [hz]⟩
  · have hn : ∀ y, x = some y → y.1 ≠ k := fun y hy e => hx ⟨y, hy, e⟩
    obtain ⟨A, c, h1, -⟩ := h.good k g _ hg (List.getElem?_eq_getElem (by rw [← h.len]; exact hk)) hn
    exact ⟨g, 0, hg, h1.c2, h1.blk.lt, fun _ => rfl, fun y hy e => absurd e (hn y hy)⟩
/-- The reference's loop. -/
structure PrR (L : List PCall) (N : Int) (B gp : Nat) (AC : Option Addr) (nC cC : Nat) (st : PS) (G : List Nat) (bs : List UInt8) (w : World) (vi : Value) (wr : World) : Prop where
  out : ∃ (i : Nat) (s2 : PS) (T2 : List (Option Addr × Nat)) (l2 : Sl3), vi = .int .i64 (i : Int) ∧ (∀ o, Runs L s2 (N - (i : Int)) o → Runs L (st.push bs) N o) ∧ Bnd s2 ∧ i + st.at_ ≤ s2.at_ ∧ PlM wr B gp AC nC cC s2.at_ G s2.told T2 s2.ret s2.many l2 ∧ RfM wr B G s2.rs none ∧ Only (fun b => B ≤ b) w wr
/-- Behind a call: told, or a reader has met a fault. -/
structure PrMid (L : List PCall) (N : Int) (i B gp : Nat) (AC : Option Addr) (nC cC : Nat) (s2 : PS) (G : List Nat) (v0 wr : World) : Prop where
  out : ∃ (s3 : PS) (rs3 : List (List UInt8 × Nat)) (x : Option (Nat × Int)) (T3 : List (Option Addr × Nat)) (l3 : Sl3), PlM wr B gp AC nC cC s3.at_ G s3.told T3 s3.ret s3.many l3 ∧ RfM wr B G rs3 x ∧ Bnd s3 ∧ s2.at_ + 1 ≤ s3.at_ ∧ Only (fun b => B ≤ b) v0 wr ∧
    ((x = none ∧ rs3 = s3.rs ∧ ∀ o, Runs L s3 (N - (i : Int) - 1) o → Runs L s2 (N - (i : Int)) o) ∨ (∃ j f, x = some (j, f) ∧ rs3 = s3.rs.take G.length ∧ j < G.length ∧ f ≠ 0 ∧ Runs L s2 (N - (i : Int)) (.thrown j f s3)))
/-- The readers further out are looked at. -/
structure PrK (d : Nat) (x : Option (Nat × Int)) (v : World) (vk : Value) (wr : World) : Prop where
  out : ∃ k : Nat, k ≤ d ∧ vk = .int .i64 (k : Int) ∧ v = wr ∧ ∀ y, x = some y → k ≤ y.1
section
variable {L : List PCall} {N : Int} {i B gp nC cC : Nat} {AC : Option Addr} {s2 : PS} {G : List Nat} {v0 v3 v4 : World} {T2 : List (Option Addr × Nat)} {l2 : Sl3} {c : PCall} {e : Ending}
theorem PrMid.skip (hP : PlM v3 B gp AC nC cC (s2.at_ + 1) G s2.told T2 s2.ret s2.many l2) (hR : RfM v3 B G s2.rs none) (hb : Bnd s2) (h4 : s2.at_ < 400) (hO : Only (fun b => B ≤ b) v0 v3) (hon : ∀ o, Runs L s2.next (N - (i : Int) - 1) o → Runs L s2 (N - (i : Int)) o) : PrMid L N i B gp AC nC cC s2 G v0 v3 :=
  ⟨s2.next, s2.rs, none, T2, l2, hP, hR, hb.next h4, Nat.le_refl _, hO, .inl ⟨rfl, rfl, hon⟩⟩
theorem pr_call (hp : PCallPost B gp AC nC cC s2.next G T2 l2 c v3 e v4) (hb : Bnd s2) (hG : G.length = s2.rs.length) (hO : Only (fun b => B ≤ b) v0 v3) (h0 : 0 < N - (i : Int)) (h4 : s2.at_ < 400) (hc : L[s2.at_]? = some c) (hk : c.kind ≠ 10) (hpos : 0 < G.length) : e = .returned (.tuple #[]) ∧ PrMid L N i B gp AC nC cC s2 G v0 v4 := by
  obtain ⟨he, ho, hm⟩ := hp
  refine ⟨he, ?_⟩
  rw [show s2.next.callAt c = s2.callAt c from rfl] at hm
  cases hca : s2.callAt c with
  | none =>
    rw [hca] at hm
    exact ⟨s2.next, s2.rs, none, T2, l2, hm.1, hm.2, hb.next h4, Nat.le_refl _, hO.trans ho, .inl ⟨rfl, rfl, fun o hr => .void h0 h4 hc hk hca hr⟩⟩
  | some x =>
    rw [hca] at hm
    cases x with
    | ok ga =>
      obtain ⟨g, a⟩ := ga
      obtain ⟨t, l', h1, h2⟩ := hm
      exact ⟨s2.next.tell (s2.jOf c) a g, _, none, _, l', h1, h2, hb.tell h4 _ _ _, Nat.le_refl _, hO.trans ho, .inl ⟨rfl, rfl, fun o hr => .told h0 h4 hc hk hca hr⟩⟩
    | error f =>
      obtain ⟨h1, h2⟩ := hm
      refine ⟨s2.next, s2.rs, some (s2.jOf c, f), T2, l2, h1, h2, hb.next h4, Nat.le_refl _, hO.trans ho, .inr ⟨s2.jOf c, f, rfl, ?_, ?_, ?_, .fell h0 h4 hc hk hca⟩⟩
      · show s2.rs = s2.rs.take G.length
        rw [hG, List.take_length]
      · rw [hG]; exact PS.jOf_lt (by omega)
      · unfold PS.callAt at hca
        exact callR_err hca
theorem pr_inner (hp : PReadPost L c.n B gp AC nC cC s2.next G c.b v3 e v4) (hG : G.length = s2.rs.length) (hO : Only (fun b => B ≤ b) v0 v3) (h0 : 0 < N - (i : Int)) (h4 : s2.at_ < 400) (hc : L[s2.at_]? = some c) (hk : c.kind = 10) (hd : G.length < 20) :
    (∃ (s4 : PS) (F : Int) (G4 : List Nat) (T4 : List (Option Addr × Nat)) (l4 : Sl3), e = .returned (.tuple #[.int .i64 F, .bool true]) ∧ PlM v4 B gp AC nC cC s4.at_ G4 s4.told T4 s4.ret s4.many l4 ∧ (G4.length = G.length + 1 ∧ G4.take G.length = G) ∧ RfM v4 B G (s4.rs.take G.length) none ∧ Only (fun b => B ≤ b) v0 v4 ∧
        Bnd (s4.pop G.length F) ∧ s2.at_ + 1 ≤ s4.at_ ∧ ∀ o, Runs L (s4.pop G.length F) (N - (i : Int) - 1) o → Runs L s2 (N - (i : Int)) o) ∨
    (∃ (s4 : PS) (j : Nat) (f : Int) (G4 : List Nat) (T4 : List (Option Addr × Nat)) (l4 : Sl3), e = .returned (.tuple #[.int .i64 0, .bool false]) ∧ PlM v4 B gp AC nC cC s4.at_ G4 s4.told T4 s4.ret s4.many l4 ∧ (G4.length = G.length + 1 ∧ G4.take G.length = G) ∧ RfM v4 B G (s4.rs.take G.length) (some (j, f)) ∧ Only (fun b => B ≤ b) v0 v4 ∧
        Bnd s4 ∧ s2.at_ + 1 ≤ s4.at_ ∧ j < G.length ∧ f ≠ 0 ∧ Runs L s2 (N - (i : Int)) (.thrown j f s4)) := by
  obtain ⟨out, T4, l4, g4, hr, ho, hm⟩ := hp
  have hGt : (G ++ [g4]).take G.length = G := List.take_left
  have hGl : (G ++ [g4]).length = G.length + 1 := by rw [List.length_append]; rfl
  have hat := hr.at_le
  cases out with
  | ok s4 =>
    obtain ⟨hb, rfl, h1, h2⟩ := hm
    have h3 := h2.cut G.length
    rw [hGt] at h3
    exact .inl ⟨s4, _, _, T4, l4, rfl, h1, ⟨hGl, hGt⟩, h3, hO.trans ho, bnd_pop hr hG.symm hb _, hat, fun o h => .inOk h0 h4 hc hk (by omega) hr (by rw [← hG]; exact h)⟩
  | thrown j f s4 =>
    obtain ⟨hb, hf, hj, h1, h2⟩ := hm
    have h3 := h2.cut G.length
    rw [hGt, List.take_take, Nat.min_eq_left (Nat.le_succ _)] at h3
    rcases hj with ⟨rfl, rfl⟩ | ⟨hj, rfl⟩
    · rw [show ((some (G.length, f) : Option (Nat × Int)).bind fun y => if y.1 < G.length then some y else none) = none from if_neg (Nat.lt_irrefl _)] at h3
      refine .inl ⟨s4, f, _, T4, l4, rfl, h1, ⟨hGl, hGt⟩, h3, hO.trans ho, bnd_pop hr hG.symm hb _, hat, fun o h => ?_⟩
      rw [hG] at hr h
      exact .inOwn h0 h4 hc hk (by omega) hr h
    · rw [show ((some (j, f) : Option (Nat × Int)).bind fun y => if y.1 < G.length then some y else none) = some (j, f) from if_pos hj] at h3
      exact .inr ⟨s4, j, f, _, T4, l4, rfl, h1, ⟨hGl, hGt⟩, h3, hO.trans ho, hb, hat, hj, hf, .inFar h0 h4 hc hk (by omega) hr (by omega)⟩
end
set_option maxRecDepth 100000 in
set_option maxHeartbeats 40000000 in
theorem pread_step {L : List PCall} {B gp nC cC m : Nat} {AC : Option Addr} (hnC : nC = L.length) (ih : ∀ m', m' < m → PReadC L B gp AC nC cC m') : PReadC L B gp AC nC cC m := by
  intro st gs TA l N w A cb bs hleft hC hB hP hR b1 b2 b3 b4 hs hbl hA hd
  obtain ⟨w1, hw1⟩ : ∃ w', w' = w.alloc (.cells #[.slice A bs.length cb, .int .i64 0, .int .i64 0] 116) := ⟨_, rfl⟩
  obtain ⟨g, hg⟩ : ∃ g, g = w.heap.size := ⟨_, rfl⟩
  have hb1 : Below w.heap.size w w1 := by rw [hw1]; exact (Below.refl _ _).alloc (Nat.le_refl _) _
  have hG1 : Blk w1 g 116 #[.slice A bs.length cb, .int .i64 0, .int .i64 0] := by rw [hw1, hg]; exact Blk.new _ _ _
  have hR1 := (hR.below hb1).push (g := g) ⟨hG1, (hs.below hb1).rv, fun hn b o e => by have := hA (List.length_pos_iff.2 hn) b o e; omega, Nat.zero_le _⟩ (hs.below hb1) hbl hA (by omega) (fun hm => by have := hR.lt g hm; omega)
  obtain ⟨w2, hw2⟩ : ∃ w', w' = w1.alloc (.cells #[pv g] 114) := ⟨_, rfl⟩
  have hb12 : Below w1.heap.size w1 w2 := by rw [hw2]; exact (Below.refl _ _).alloc (Nat.le_refl _) _
  have hU2 : Blk w2 w1.heap.size 114 #[pv g] := by rw [hw2]; exact Blk.new _ _ _
  have hb02 : Below w.heap.size w w2 := hb1.trans (hb12.mono hb1.size)
  have hP1 := hP.below hb1
  have r1 : w1.cell? ⟨gp, 2, none⟩ = some (.slice l.AR gs.length l.cR) := hP1.blk.cell 2
  have r1l := hP1.blk.lt
  have HP2 := Lib.hid (hP1.below hb12)
  have HR2 := Lib.hid (hR1.below hb12)
  have HU2 := Lib.hid hU2
  have Hw1 := Lib.hid hw1
  have Hw2 := Lib.hid hw2
  have Hg := Lib.hid hg
  have Hb02 := Lib.hid hb02
  have HC := Lib.hid hC
  have Hih := Lib.hid ih
  have HnC := Lib.hid hnC
  have Hrl := Lib.hid hR.len
  have hB2 : B ≤ w2.heap.size := by have := hb02.size; omega
  have hgB : B ≤ g := by omega
  clear hw1 hw2 hg hb1 hG1 hR1 hb12 hU2 hb02 hP hR hP1 hC ih hnC hs hbl hA
  go_enter Try.func38, Try.ntmps38
  go_upto_region 2 with (fail)
  rw [← Hw1.out, ← Hg.out]
  clear Hw1
  go_wp2_with (refine wpList_at 25 rfl ?_; refine wp_stop ?_)
  try refine ⟨?_⟩
  rw [← Hw2.out]
  clear Hw2
  refine wpList_app rfl (.tmp 22) (.tmp 24) ePtrR rfl rfl HP2.out.rows (m := 1) (c' := 1) (us := [pv g]) rfl (RV.of_blk HU2.out) rfl (by intro v hv; simp only [List.mem_cons, List.not_mem_nil, or_false] at hv; subst hv; rfl) (by unfold maxLen; omega) (by omega) hB2 (by intro h; cases h) ?_
  intro A3 c3 w3 ho3 hg3 hA3
  obtain ⟨hP4, hO24⟩ := HP2.out.pushR g ho3 hg3
  have hO3 : Only (fun b => l.AR.map (·.block) = some b) w2 w3 := Only.of_grown hg3 fun k e => e
  have hblk3 := HP2.out.blk.only hO3 (fun e => own_blk_ne2 HP2.out.rows HP2.out.blk (by decide) e)
  have s3 : w3.cell? ⟨gp, 2, none⟩ = some (.slice l.AR gs.length l.cR) := hblk3.cell 2
  have s3f := hblk3.frozen 2
  have s3l := hblk3.lt
  obtain ⟨w4, hw4⟩ : ∃ w', w' = w3.setCell ⟨gp, 2, none⟩ (.slice A3 (gs.length + 1) c3) := ⟨_, rfl⟩
  rw [← hw4] at hP4 hO24
  have hR4 := HR2.out.only hO24 (fun b cs hb e => by
    rcases e with e | e
    · rw [e] at hb; exact absurd (blkT_eq hb.ty HP2.out.blk.ty) (by decide)
    · obtain ⟨h1, -, -⟩ := ownG_form HP2.out.rows b e
      obtain ⟨cs2, h2⟩ := own_ty HP2.out.rows h1
      exact absurd (blkT_eq hb.ty h2.ty) (by decide)) (fun b e => by
    rcases e with e | e
    · rw [e]; exact HP2.out.low
    · exact (Own.row HP2.out.rows b e).1)
  have hO04 : Only (fun b => B ≤ b) w w4 := (Only.of_fresh Hb02.out).trans (hO24.mono fun b _ e => by
    rcases e with e | e
    · rw [e]; exact HP2.out.low
    · exact (Own.row HP2.out.rows b e).1)
  have s5 : w4.cell? ⟨gp, 5, none⟩ = some (.int .i64 (st.many : Int)) := hP4.blk.cell 5
  have s5f := hP4.blk.frozen 5
  have s5l := hP4.blk.lt
  obtain ⟨hP5, hO45⟩ := hP4.setMany (st.many + 1)
  rw [show ((st.many + 1 : Nat) : Int) = (st.many : Int) + 1 from rfl] at hP5 hO45
  obtain ⟨w5, hw5⟩ : ∃ w', w' = w4.setCell ⟨gp, 5, none⟩ (.int .i64 ((st.many : Int) + 1)) := ⟨_, rfl⟩
  rw [← hw5] at hP5 hO45
  have hR5 := hR4.only hO45 (fun b cs hb e => by rw [e] at hb; exact absurd (blkT_eq hb.ty hP4.blk.ty) (by decide)) (fun b e => by rw [e]; exact hP4.low)
  have hO05 : Only (fun b => B ≤ b) w w5 := hO04.trans (hO45.mono fun b _ e => by rw [e]; exact hP4.low)
  have k2 : w5.cell? ⟨gp, 2, none⟩ = some (.slice A3 (gs.length + 1) c3) := by have h1 := hP5.blk.cell 2; rw [h1]; show some (Value.slice A3 (gs ++ [g]).length c3) = _; rw [List.length_append]; rfl
  have k2l := hP5.blk.lt
  obtain ⟨G, hG⟩ : ∃ G, G = gs ++ [g] := ⟨_, rfl⟩
  have hGl : G.length = gs.length + 1 := by rw [hG, List.length_append]; rfl
  have hGd : G[gs.length]? = some g := by rw [hG, List.getElem?_append_right (Nat.le_refl _), Nat.sub_self]; rfl
  rw [← hG] at hP5 hR5
  have hbp : Bnd (st.push bs) := ⟨b1, by show st.ret.length + (st.rs ++ [(bs, 0)]).length ≤ st.at_ + 1; rw [List.length_append, ← Hrl.out, List.length_singleton]; omega, by show st.many + 1 ≤ st.at_ + 1; omega, b4⟩
  have HRel := Lib.hid (show PrR L N B gp AC nC cC st G bs w (.int .i64 0) w5 from ⟨0, st.push bs, TA, _, rfl, fun o h => by simpa using h, hbp, by show 0 + st.at_ ≤ st.at_; omega, hP5, hR5, hO05⟩)
  have Hw4 := Lib.hid hw4
  have Hw5 := Lib.hid hw5
  have HG := Lib.hid hG
  have HGd := Lib.hid hGd
  have HCw := Lib.hid (HC.out)
  have hwm : IntKind.i64.wrap ((st.many : Int) + 1) = (st.many : Int) + 1 := by rw [IntKind.wrap_i64]; omega
  clear ho3 hg3 hA3 hP4 hO24 hO3 hblk3 hR4 hO04 hP5 hO45 hR5 hO05 hbp hw4 hw5 hG hGd r1 r1l HU2 HP2 HR2 Hb02 HC
  go_upto_region 3 with (fail)
  rw [← Hw4.out]
  clear Hw4 s3 s3f s3l
  go_upto_region 4 with (fail)
  rw [← Hw5.out]
  clear Hw5 s5 s5f s5l hwm
  go_wp2_with fail
  clear k2 k2l
  go_loopw [10] (fun vi wr => PrR L N B gp AC nC cC st G bs w vi wr) (fun vi _ => 401 - (intOf vi).toNat)
  case atStart => exact HRel.out
  case round =>
    rename World => v0
    obtain ⟨i, s2, T2, l2, rfl, hru, hbd, hi, hP, hR, hO⟩ := hrel.out
    clear hrel HRel
    have c0 : v0.cell? ⟨gp, 0, none⟩ = some (.slice AC nC cC) := hP.blk.cell 0
    have c1 : v0.cell? ⟨gp, 1, none⟩ = some (.int .i64 (s2.at_ : Int)) := hP.blk.cell 1
    have cl := hP.blk.lt
    have hCv := HCw.out.only hO (fun b e => e)
    have hz0 := hO.size
    have hBv0 : B ≤ v0.heap.size := by omega
    have HP := Lib.hid hP
    have HR := Lib.hid hR
    have HO := Lib.hid hO
    have Hru := Lib.hid hru
    have Hbd := Lib.hid hbd
    have HCv := Lib.hid hCv
    clear hP hR hO hru hbd hCv hz0
    by_cases hiN : (i : Int) < N
    rotate_left
    · as_aux_lemma =>
      have hd : decide ((i : Int) < N) = false := by simpa using hiN
      have Hst := Lib.hid (Hru.out _ (Runs.stop (L := L) (st := s2) (k := N - (i : Int)) (.inl (by omega))))
      clear hiN
      go_wp2_with fail
      go_quiet (fail)
      rename Nat => nq
      obtain ⟨v1, hv1⟩ : ∃ w', w' = v0.drewN nq := ⟨_, rfl⟩
      rw [← hv1]
      have hb01 : Below v0.heap.size v0 v1 := by rw [hv1]; exact below_drewN (Below.refl _ _) _
      obtain ⟨r, hr⟩ : ∃ r, s2.rs[gs.length]? = some r := ⟨_, List.getElem?_eq_getElem (by rw [← HR.out.len, hGl]; omega)⟩
      obtain ⟨mA, mc, hrr, -, hrl2, -⟩ := HR.out.good gs.length g r HGd.out hr (fun y e => by cases e)
      have Hlf := Lib.hid (rfLeft_any g mc r.2 mA r.1 0 v1 (hrr.below hb01) (by omega))
      have htl : s2.tail gs.length = if r.2 < r.1.length then 13 else 0 := by
        unfold PS.tail
        rw [List.getD_eq_getElem?_getD, hr]; rfl
      have HB1 := Lib.hid hb01
      have Htl := Lib.hid htl
      clear hv1 hb01 hr hrr hrl2 htl c0 c1 cl
      go_wp2_with fail
      refine Hlf.out.mono ?_
      rintro e v2 ⟨rfl, mm, hv2⟩
      have hb2 : Below v0.heap.size v0 v2 := by rw [hv2]; exact below_drewN HB1.out mm
      have HPost := Lib.hid (show ∀ F : Int, F = s2.tail gs.length → PReadPost L N B gp AC nC cC st gs bs w (.returned (.tuple #[.int .i64 F, .bool true])) v2 from fun F hF => by
        subst hF
        have h1 := HP.out.below hb2
        have h2 := HR.out.below hb2
        rw [HG.out] at h1 h2
        exact ⟨.ok s2, T2, l2, g, Hst.out, HO.out.trans (Only.of_fresh hb2), Hbd.out, rfl, h1, h2⟩)
      clear hv2 hb2
      by_cases hlt : r.2 < r.1.length
      · have hltI : (0 : Int) < ((r.1.length - r.2 : Nat) : Int) := by omega
        have hF := HPost.out 13 (by rw [Htl.out, if_pos hlt])
        have HF := Lib.hid hF
        clear hF hlt
        go_wp2_with fail
        go_ret2
        exact HF.out
      · have hltI : ¬ (0 : Int) < ((r.1.length - r.2 : Nat) : Int) := by omega
        have hF := HPost.out 0 (by rw [Htl.out, if_neg hlt])
        have HF := Lib.hid hF
        clear hF hlt
        go_wp2_with fail
        go_ret2
        exact HF.out
    by_cases hat : (s2.at_ : Int) < (nC : Int)
    rotate_left
    · as_aux_lemma =>
      have hd : decide ((s2.at_ : Int) < (nC : Int)) = false := by simpa using hat
      have hd2 : decide (s2.at_ < nC) = false := by simpa using hat
      have Hst := Lib.hid (Hru.out _ (Runs.stop (L := L) (st := s2) (k := N - (i : Int)) (.inr (.inl (by rw [← HnC.out]; omega)))))
      clear hat
      go_wp2_with fail
      go_quiet (fail)
      rename Nat => nq
      obtain ⟨v1, hv1⟩ : ∃ w', w' = v0.drewN nq := ⟨_, rfl⟩
      rw [← hv1]
      have hb01 : Below v0.heap.size v0 v1 := by rw [hv1]; exact below_drewN (Below.refl _ _) _
      obtain ⟨r, hr⟩ : ∃ r, s2.rs[gs.length]? = some r := ⟨_, List.getElem?_eq_getElem (by rw [← HR.out.len, hGl]; omega)⟩
      obtain ⟨mA, mc, hrr, -, hrl2, -⟩ := HR.out.good gs.length g r HGd.out hr (fun y e => by cases e)
      have Hlf := Lib.hid (rfLeft_any g mc r.2 mA r.1 0 v1 (hrr.below hb01) (by omega))
      have htl : s2.tail gs.length = if r.2 < r.1.length then 13 else 0 := by
        unfold PS.tail
        rw [List.getD_eq_getElem?_getD, hr]; rfl
      have HB1 := Lib.hid hb01
      have Htl := Lib.hid htl
      clear hv1 hb01 hr hrr hrl2 htl c0 c1 cl
      go_wp2_with fail
      refine Hlf.out.mono ?_
      rintro e v2 ⟨rfl, mm, hv2⟩
      have hb2 : Below v0.heap.size v0 v2 := by rw [hv2]; exact below_drewN HB1.out mm
      have HPost := Lib.hid (show ∀ F : Int, F = s2.tail gs.length → PReadPost L N B gp AC nC cC st gs bs w (.returned (.tuple #[.int .i64 F, .bool true])) v2 from fun F hF => by
        subst hF
        have h1 := HP.out.below hb2
        have h2 := HR.out.below hb2
        rw [HG.out] at h1 h2
        exact ⟨.ok s2, T2, l2, g, Hst.out, HO.out.trans (Only.of_fresh hb2), Hbd.out, rfl, h1, h2⟩)
      clear hv2 hb2
      by_cases hlt : r.2 < r.1.length
      · have hltI : (0 : Int) < ((r.1.length - r.2 : Nat) : Int) := by omega
        have hF := HPost.out 13 (by rw [Htl.out, if_pos hlt])
        have HF := Lib.hid hF
        clear hF hlt
        go_wp2_with fail
        go_ret2
        exact HF.out
      · have hltI : ¬ (0 : Int) < ((r.1.length - r.2 : Nat) : Int) := by omega
        have hF := HPost.out 0 (by rw [Htl.out, if_neg hlt])
        have HF := Lib.hid hF
        clear hF hlt
        go_wp2_with fail
        go_ret2
        exact HF.out
    by_cases h4 : (s2.at_ : Int) < 400
    rotate_left
    · as_aux_lemma =>
      have hd : decide ((s2.at_ : Int) < 400) = false := by simp; omega
      have hd2 : decide (s2.at_ < 400) = false := by simp; omega
      have Hst := Lib.hid (Hru.out _ (Runs.stop (L := L) (st := s2) (k := N - (i : Int)) (.inr (.inr (by omega)))))
      clear h4
      go_wp2_with fail
      go_quiet (fail)
      rename Nat => nq
      obtain ⟨v1, hv1⟩ : ∃ w', w' = v0.drewN nq := ⟨_, rfl⟩
      rw [← hv1]
      have hb01 : Below v0.heap.size v0 v1 := by rw [hv1]; exact below_drewN (Below.refl _ _) _
      obtain ⟨r, hr⟩ : ∃ r, s2.rs[gs.length]? = some r := ⟨_, List.getElem?_eq_getElem (by rw [← HR.out.len, hGl]; omega)⟩
      obtain ⟨mA, mc, hrr, -, hrl2, -⟩ := HR.out.good gs.length g r HGd.out hr (fun y e => by cases e)
      have Hlf := Lib.hid (rfLeft_any g mc r.2 mA r.1 0 v1 (hrr.below hb01) (by omega))
      have htl : s2.tail gs.length = if r.2 < r.1.length then 13 else 0 := by
        unfold PS.tail
        rw [List.getD_eq_getElem?_getD, hr]; rfl
      have HB1 := Lib.hid hb01
      have Htl := Lib.hid htl
      clear hv1 hb01 hr hrr hrl2 htl c0 c1 cl
      go_wp2_with fail
      refine Hlf.out.mono ?_
      rintro e v2 ⟨rfl, mm, hv2⟩
      have hb2 : Below v0.heap.size v0 v2 := by rw [hv2]; exact below_drewN HB1.out mm
      have HPost := Lib.hid (show ∀ F : Int, F = s2.tail gs.length → PReadPost L N B gp AC nC cC st gs bs w (.returned (.tuple #[.int .i64 F, .bool true])) v2 from fun F hF => by
        subst hF
        have h1 := HP.out.below hb2
        have h2 := HR.out.below hb2
        rw [HG.out] at h1 h2
        exact ⟨.ok s2, T2, l2, g, Hst.out, HO.out.trans (Only.of_fresh hb2), Hbd.out, rfl, h1, h2⟩)
      clear hv2 hb2
      by_cases hlt : r.2 < r.1.length
      · have hltI : (0 : Int) < ((r.1.length - r.2 : Nat) : Int) := by omega
        have hF := HPost.out 13 (by rw [Htl.out, if_pos hlt])
        have HF := Lib.hid hF
        clear hF hlt
        go_wp2_with fail
        go_ret2
        exact HF.out
      · have hltI : ¬ (0 : Int) < ((r.1.length - r.2 : Nat) : Int) := by omega
        have hF := HPost.out 0 (by rw [Htl.out, if_neg hlt])
        have HF := Lib.hid hF
        clear hF hlt
        go_wp2_with fail
        go_ret2
        exact HF.out
    go_wp2_with fail
    go_quiet (fail)
    rename Nat => nq
    obtain ⟨v1, hv1⟩ : ∃ w', w' = v0.drewN nq := ⟨_, rfl⟩
    rw [← hv1]
    go_wp2_with fail
    have hb01 : Below v0.heap.size v0 v1 := by rw [hv1]; exact below_drewN (Below.refl _ _) _
    have hP1 := HP.out.below hb01
    obtain ⟨TC, ht1, ht2, ht3, ht4⟩ := (HCv.out.only (Only.of_fresh (S := fun _ => False) hb01) (fun _ h => h.elim)).out
    have hatN : s2.at_ < L.length := by rw [← HnC.out]; omega
    obtain ⟨c, hc⟩ : ∃ c, L[s2.at_]? = some c := ⟨_, List.getElem?_eq_getElem hatN⟩
    obtain ⟨t, ht⟩ : ∃ t, TC[s2.at_]? = some t := ⟨_, List.getElem?_eq_getElem (by rw [ht1]; exact hatN)⟩
    obtain ⟨bC, oC, rfl, hbC, hcC⟩ := ht2.at_ (by rw [callCells_len, List.length_zip, ht1, Nat.min_self]; omega)
    obtain ⟨q0, q1, q2, q3⟩ := call_cells hcC s2.at_ hc ht
    obtain ⟨hcs, hcl, hcB⟩ := ht4 _ _ _ hc ht
    obtain ⟨tA, tc⟩ := t
    dsimp only at q0 q1 q2 q3 hcs hcB hcl
    have s0 : v1.cell? ⟨gp, 0, none⟩ = some (.slice (some ⟨bC, oC, none⟩) nC cC) := hP1.blk.cell 0
    have s1 : v1.cell? ⟨gp, 1, none⟩ = some (.int .i64 (s2.at_ : Int)) := hP1.blk.cell 1
    have sl := hP1.blk.lt
    have HP1 := Lib.hid hP1
    have HR1 := Lib.hid (HR.out.below hb01)
    have Hb01 := Lib.hid hb01
    have Hcs := Lib.hid hcs
    have HcB := Lib.hid hcB
    have Hcl := Lib.hid hcl
    have Hc := Lib.hid hc
    have HbC := Lib.hid (show bC < B from ht3 (by omega) bC oC rfl)
    clear hv1 c0 c1 cl hb01 hP1 ht1 ht2 ht3 ht4 hc ht hcC hcs hcB hcl
    obtain ⟨SC, hSCd⟩ : ∃ S : World → Prop, S = fun w' => (w'.cell? ⟨gp, 0, none⟩ = some (.slice (some ⟨bC, oC, none⟩) nC cC) ∧ w'.cell? ⟨gp, 1, none⟩ = some (.int .i64 (s2.at_ : Int)) ∧ gp < w'.heap.size) ∧ (w'.cell? ⟨bC, oC + s2.at_ * 4, none⟩ = some (.int .i64 c.kind) ∧ w'.cell? ⟨bC, oC + s2.at_ * 4 + 1, none⟩ = some (.int .i64 c.n) ∧ w'.cell? ⟨bC, oC + s2.at_ * 4 + 2, none⟩ = some (.int .i64 c.out) ∧ w'.cell? ⟨bC, oC + s2.at_ * 4 + 3, none⟩ = some (.slice tA c.b.length tc) ∧ bC < w'.heap.size) := ⟨_, rfl⟩
    have hSC : SC v1.drew := by rw [hSCd]; exact ⟨⟨s0, s1, sl⟩, ⟨q0, q1, q2, q3, hbC⟩⟩
    have HSC := Lib.hid (show SC v1.drew from hSC)
    have HSd := Lib.hid hSCd
    clear hSC hSCd
    refine region_heldT 12 SC (by kernel_rfl) (by decide) ?_
    refine HeadW.takeA 0 (v := .pointer (some ⟨gp, 0, none⟩)) rfl (by kernel_rfl) rfl (by decide) (fun _ _ _ hL => seqB_ready hL.1) (by kernel_rfl) (by kernel_rfl) (fun _ _ _ h => h) HSC.out (.inl ⟨by kernel_rfl, by intro w hSw; rw [HSd.out] at hSw; obtain ⟨⟨e0, e1, l0⟩, ⟨e2, e3, e4, e5, l1⟩⟩ := hSw; go_simp⟩) ?_
    simp only [Act.put, List.setIfInBounds_toArray]
    refine HeadW.takeA 1 (v := .pointer (some ⟨gp, 0, none⟩)) rfl (by kernel_rfl) rfl (by decide) (fun _ _ _ hL => seqB_ready hL.1) (by kernel_rfl) (by kernel_rfl) (fun _ _ _ h => h) HSC.out (.inl ⟨by kernel_rfl, by intro w hSw; rw [HSd.out] at hSw; obtain ⟨⟨e0, e1, l0⟩, ⟨e2, e3, e4, e5, l1⟩⟩ := hSw; go_simp⟩) ?_
    simp only [Act.put]
    refine HeadW.takeA 2 (v := .pointer (some ⟨gp, 0, none⟩)) rfl (by kernel_rfl) rfl (by decide) (fun _ _ _ hL => seqB_ready hL.1) (by kernel_rfl) (by kernel_rfl) (fun _ _ _ h => h) HSC.out (.inl ⟨by kernel_rfl, by intro w hSw; rw [HSd.out] at hSw; obtain ⟨⟨e0, e1, l0⟩, ⟨e2, e3, e4, e5, l1⟩⟩ := hSw; go_simp⟩) ?_
    simp only [Act.put]
    refine HeadW.takeA 3 (v := .slice (some ⟨bC, oC, none⟩) nC cC) rfl (by kernel_rfl) rfl (by decide) (fun _ _ _ hL => seqB_ready hL.1) (by kernel_rfl) (by kernel_rfl) (fun _ _ _ h => h) HSC.out (.inl ⟨by kernel_rfl, by intro w hSw; rw [HSd.out] at hSw; obtain ⟨⟨e0, e1, l0⟩, ⟨e2, e3, e4, e5, l1⟩⟩ := hSw; go_simp⟩) ?_
    simp only [Act.put]
    refine HeadW.takeA 4 (v := .pointer (some ⟨gp, 0, none⟩)) rfl (by kernel_rfl) rfl (by decide) (fun _ _ _ hL => seqB_ready hL.1) (by kernel_rfl) (by kernel_rfl) (fun _ _ _ h => h) HSC.out (.inl ⟨by kernel_rfl, by intro w hSw; rw [HSd.out] at hSw; obtain ⟨⟨e0, e1, l0⟩, ⟨e2, e3, e4, e5, l1⟩⟩ := hSw; go_simp⟩) ?_
    simp only [Act.put]
    refine HeadW.takeA 5 (v := .pointer (some ⟨gp, 0, none⟩)) rfl (by kernel_rfl) rfl (by decide) (fun _ _ _ hL => seqB_ready hL.1) (by kernel_rfl) (by kernel_rfl) (fun _ _ _ h => h) HSC.out (.inl ⟨by kernel_rfl, by intro w hSw; rw [HSd.out] at hSw; obtain ⟨⟨e0, e1, l0⟩, ⟨e2, e3, e4, e5, l1⟩⟩ := hSw; go_simp⟩) ?_
    simp only [Act.put]
    refine HeadW.takeA 6 (v := .pointer (some ⟨gp, 1, none⟩)) rfl (by kernel_rfl) rfl (by decide) (fun _ _ _ hL => seqB_ready hL.1) (by kernel_rfl) (by kernel_rfl) (fun _ _ _ h => h) HSC.out (.inl ⟨by kernel_rfl, by intro w hSw; rw [HSd.out] at hSw; obtain ⟨⟨e0, e1, l0⟩, ⟨e2, e3, e4, e5, l1⟩⟩ := hSw; go_simp⟩) ?_
    simp only [Act.put]
    refine HeadW.takeA 7 (v := .int .i64 (s2.at_ : Int)) rfl (by kernel_rfl) rfl (by decide) (fun _ _ _ hL => seqB_ready hL.1) (by kernel_rfl) (by kernel_rfl) (fun _ _ _ h => h) HSC.out (.inl ⟨by kernel_rfl, by intro w hSw; rw [HSd.out] at hSw; obtain ⟨⟨e0, e1, l0⟩, ⟨e2, e3, e4, e5, l1⟩⟩ := hSw; go_simp⟩) ?_
    simp only [Act.put]
    refine HeadW.takeA 8 (v := .pointer (some ⟨bC, oC + s2.at_ * 4, none⟩)) rfl (by kernel_rfl) rfl (by decide) (fun _ _ _ hL => seqB_ready hL.1) (by kernel_rfl) (by kernel_rfl) (fun _ _ _ h => h) HSC.out (.inl ⟨by kernel_rfl, by intro w hSw; rw [HSd.out] at hSw; obtain ⟨⟨e0, e1, l0⟩, ⟨e2, e3, e4, e5, l1⟩⟩ := hSw; go_simp⟩) ?_
    simp only [Act.put]
    refine HeadW.takeA 9 (v := .agg #[.int .i64 c.kind, .int .i64 c.n, .int .i64 c.out, .slice tA c.b.length tc]) rfl (by kernel_rfl) rfl (by decide) (fun _ _ _ hL => seqB_ready hL.1) (by kernel_rfl) (by kernel_rfl) (fun _ _ _ h => h) HSC.out (.inl ⟨by kernel_rfl, by intro w hSw; rw [HSd.out] at hSw; obtain ⟨⟨e0, e1, l0⟩, ⟨e2, e3, e4, e5, l1⟩⟩ := hSw; go_simp⟩) ?_
    simp only [Act.put]
    clear s0 s1 q0 q1 q2 q3
    have hSCb : ∀ w', Below v1.heap.size v1 w' → SC w' := fun w' hb => by
      have h := HSC.out
      rw [HSd.out] at h ⊢
      obtain ⟨⟨e0, e1, l0⟩, ⟨e2, e3, e4, e5, l1⟩⟩ := h
      obtain ⟨hc, -⟩ := bcell hb
      have hz := hb.size
      exact ⟨⟨(hc _ _ l0).trans e0, (hc _ _ l0).trans e1, Nat.lt_of_lt_of_le l0 hz⟩, ⟨(hc _ _ l1).trans e2, (hc _ _ l1).trans e3, (hc _ _ l1).trans e4, (hc _ _ l1).trans e5, Nat.lt_of_lt_of_le l1 hz⟩⟩
    refine headW_one 10 rfl (by decide) (by kernel_rfl) (by kernel_rfl) fun K hK => ?_
    go_simp
    refine hK.out _ _ (hSCb _ (((Below.refl _ _).alloc (Nat.le_refl _) _).drew)) (fun hHeld => ?_)
    clear hK K hHeld
    refine headW_one 11 rfl (by decide) (by kernel_rfl) (by kernel_rfl) fun K hK => ?_
    go_simp
    refine hK.out _ _ (hSCb _ (((Below.refl _ _).alloc (Nat.le_refl _) _).drew)) (fun hHeld => ?_)
    clear hK K hHeld hSCb
    refine fun hInv => ⟨by kernel_rfl, ?_⟩
    clear hInv
    simp only [List.drop_succ_cons, List.drop_zero]
    clear HSC HSd
    clear SC
    obtain ⟨gb, hgb⟩ : ∃ g, g = v1.heap.size := ⟨_, rfl⟩
    obtain ⟨v2, hv2⟩ : ∃ w', w' = (v1.alloc (.cells #[.int .i64 c.kind, .int .i64 c.n, .int .i64 c.out, .slice tA c.b.length tc] 111)).drew := ⟨_, rfl⟩
    rw [← hv2, ← hgb]
    have hb12v : Below v1.heap.size v1 v2 := by rw [hv2]; exact ((Below.refl _ _).alloc (Nat.le_refl _) _).drew
    have hC2 : Blk v2 gb 111 #[.int .i64 c.kind, .int .i64 c.n, .int .i64 c.out, .slice tA c.b.length tc] := by rw [hv2, hgb]; exact Blk.new v1 _ _
    have hP2 := HP1.out.below hb12v
    have s1 : v2.cell? ⟨gp, 1, none⟩ = some (.int .i64 (s2.at_ : Int)) := hP2.blk.cell 1
    have s1f := hP2.blk.frozen 1
    have sl := hP2.blk.lt
    obtain ⟨hP3, hO23⟩ := hP2.setAt (s2.at_ + 1)
    rw [show ((s2.at_ + 1 : Nat) : Int) = (s2.at_ : Int) + 1 from rfl] at hP3 hO23
    obtain ⟨v3, hv3⟩ : ∃ w', w' = v2.setCell ⟨gp, 1, none⟩ (.int .i64 ((s2.at_ : Int) + 1)) := ⟨_, rfl⟩
    rw [← hv3] at hP3 hO23
    have hC3 := hC2.only hO23 (fun e => by have := HP1.out.blk.lt; omega)
    have hO23' : Only (fun b => B ≤ b) v2 v3 := hO23.mono fun b _ e => by rw [e]; exact HP.out.low
    have hO13 : Only (fun b => B ≤ b) v1 v3 := (Only.of_fresh hb12v).trans hO23'
    have hO03 : Only (fun b => B ≤ b) v0 v3 := (Only.of_fresh Hb01.out).trans hO13
    have hR3 := (HR1.out.below hb12v).only hO23 (fun b cs hb e => by rw [e] at hb; exact absurd (blkT_eq hb.ty hP2.blk.ty) (by decide)) (fun b e => by rw [e]; exact HP.out.low)
    have hrs : s2.rs.length = gs.length + 1 := by rw [← HR.out.len, hGl]
    have hz03 := hO03.size
    have hBv3 : B ≤ v3.heap.size := by omega
    have Hs3 := Lib.hid (show Sl v3 ⟨tA, tc, c.b⟩ from Hcs.out.only hO13 (fun b o h0 e hb => by have := HcB.out h0 b o e; omega))
    have HC3 := Lib.hid (HCv.out.only hO03 (fun b hb => hb))
    have HO03 := Lib.hid hO03
    have HP3 := Lib.hid hP3
    have HR3 := Lib.hid hR3
    have Hv3 := Lib.hid hv3
    have Hrs := Lib.hid hrs
    have k0 : v3.cell? ⟨gb, 0, none⟩ = some (.int .i64 c.kind) := hC3.cell 0
    have k1 : v3.cell? ⟨gb, 1, none⟩ = some (.int .i64 c.n) := hC3.cell 1
    have k2 : v3.cell? ⟨gb, 2, none⟩ = some (.int .i64 c.out) := hC3.cell 2
    have k3 : v3.cell? ⟨gb, 3, none⟩ = some (.slice tA c.b.length tc) := hC3.cell 3
    have kl := hC3.lt
    have hwr : IntKind.i64.wrap ((s2.at_ : Int) + 1) = (s2.at_ : Int) + 1 := by rw [IntKind.wrap_i64]; omega
    clear hgb hv2 hb12v hC2 hP2 hP3 hO23 hO23' hR3 hv3 hC3 hO13 hO03 hrs
    go_upto_region 10 with (fail)
    rw [← Hv3.out]
    clear Hv3 s1 s1f sl hwr
    by_cases hk : c.kind = 10
    · by_cases hd20 : (gs.length : Int) + 1 < 20
      rotate_left
      · as_aux_lemma =>
        have hmid := PrMid.skip (i := i) (N := N) HP3.out HR3.out Hbd.out (by omega) HO03.out (fun o hr => .skip (by omega) (by omega) Hc.out hk (by rw [Hrs.out]; omega) hr)
        have Hmid := Lib.hid hmid
        clear hmid HC3 Hs3
        go_upto_region 17 with (fail)
        obtain ⟨s3, rs3, x, T3, l3, hP5, hR5, hb5, hat5, hO5, hend⟩ := Hmid.out
        obtain ⟨gR, hgR, -, hgRl⟩ := ownG_some hP5.rows (by omega)
        have c2 : v3.cell? ⟨gp, 2, none⟩ = some (.slice (some ⟨gR, 0, none⟩) (gs.length + 1) l3.cR) := by rw [← hgR, ← hGl]; exact hP5.blk.cell 2
        have cl := hP5.blk.lt
        have hxn : ∀ y, x = some y → y.2 ≠ 0 ∧ y.1 ≤ gs.length := fun y hy => by
          rcases hend with ⟨h1, -⟩ | ⟨j, f, h1, -, h2, h3, -⟩
          · rw [h1] at hy; cases hy
          · rw [h1] at hy; injection hy with hy; subst hy; exact ⟨h3, by show j ≤ gs.length; omega⟩
        have HP5 := Lib.hid hP5
        have HR5 := Lib.hid hR5
        have Hb5 := Lib.hid hb5
        have HO5 := Lib.hid hO5
        have Hend := Lib.hid hend
        have HgR := Lib.hid hgR
        have Hxn := Lib.hid hxn
        have hwd : IntKind.i64.wrap ((gs.length : Int) + 1 - 1) = (gs.length : Int) := by rw [IntKind.wrap_i64]; omega
        have hwd2 : IntKind.i64.wrap (gs.length : Int) = (gs.length : Int) := by rw [IntKind.wrap_i64]; omega
        have hwr6 : IntKind.i64.wrap ((i : Int) + 1) = (i : Int) + 1 := by rw [IntKind.wrap_i64]; omega
        clear hP5 hR5 hb5 hO5 hend hgR hxn Hmid
        go_wp2_with fail
        go_loopw [14] (fun vk wr => PrK gs.length x v3 vk wr) (fun vk _ => gs.length - (intOf vk).toNat)
        case atStart => exact ⟨0, Nat.zero_le _, rfl, rfl, fun y _ => Nat.zero_le _⟩
        case round =>
          rename World => vq
          obtain ⟨k, hkd, rfl, hvq, hky⟩ := hrel.out
          subst hvq
          clear hrel
          have Hky := Lib.hid hky
          have hwk : IntKind.i64.wrap ((k : Int) + 1) = (k : Int) + 1 := by rw [IntKind.wrap_i64]; omega
          clear hky
          by_cases hk2 : k < gs.length
          · obtain ⟨ge, fe, hge, hce, hcl, hz, hnz⟩ := HR5.out.err k (by omega)
            have hrow := HP5.out.rows
            rw [HgR.out] at hrow
            obtain ⟨rc, -, -⟩ := ownG_at hrow k (by simp; omega)
            rw [List.getElem_map, show G[k]'(by omega) = ge from by rw [List.getElem?_eq_getElem (by omega)] at hge; exact Option.some.inj hge] at rc
            have hkI : (k : Int) < (gs.length : Int) := by omega
            clear hrow hge
            by_cases hfe : fe = 0
            · rw [hfe] at hce
              have HK := Lib.hid (show PrK gs.length x v3 (.int .i64 ((k : Int) + 1)) v3 from ⟨k + 1, hk2, rfl, rfl, fun y hy => by
                have h1 := Hky.out y hy
                rcases Nat.lt_or_ge k y.1 with h | h
                · exact h
                · exact absurd ((hnz y hy (by omega)).symm.trans hfe) (Hxn.out y hy).1⟩)
              clear hz hnz hfe
              go_wp2_with fail
              refine ⟨?_, ?measure⟩
              case measure => simp [intOf]; omega
              exact HK.out
            · have Hpost := Lib.hid (show PReadPost L N B gp (some ⟨bC, oC, none⟩) nC cC st gs bs w (.returned (.tuple #[.int .i64 0, .bool false])) v3 from by
                rcases Hend.out with ⟨h1, -⟩ | ⟨j, f, h1, h2, h3, h5, h6⟩
                · exact absurd (hz (fun y hy => by rw [h1] at hy; cases hy)) hfe
                · have hjk : j = k := by
                    refine Decidable.byContradiction fun hn => hfe (hz fun y hy => ?_)
                    rw [h1] at hy; injection hy with hy; subst hy; exact hn
                  subst hjk
                  have h7 := HP5.out
                  have h8 := HR5.out
                  rw [h1, h2, hGl] at h8
                  rw [HG.out] at h7 h8
                  exact ⟨.thrown j f s3, T3, l3, g, Hru.out _ h6, HO.out.trans HO5.out, Hb5.out, h5, .inr ⟨hk2, rfl⟩, h7, h8⟩)
              have hfe2 : (fe == 0) = false := by simpa using hfe
              clear hz hnz
              go_wp2_with fail
              go_ret2
              exact Hpost.out
          · obtain rfl : k = gs.length := by omega
            obtain ⟨ge, fe, hge, hce, hcl, hz, hnz⟩ := HR5.out.err gs.length (by omega)
            rw [HGd.out] at hge
            injection hge with hge
            subst hge
            have hkI : ¬ (gs.length : Int) < (gs.length : Int) := by omega
            by_cases hfe : fe = 0
            · rw [hfe] at hce
              have HRel := Lib.hid (show PrR L N B gp (some ⟨bC, oC, none⟩) nC cC st G bs w (.int .i64 ((i : Int) + 1)) v3 from by
                rcases Hend.out with ⟨h1, h2, h3⟩ | ⟨j, f, h1, h2, h3, h5, h6⟩
                · refine ⟨i + 1, s3, T3, l3, rfl, fun o hr => Hru.out o (h3 o (by rw [show N - ((i + 1 : Nat) : Int) = N - (i : Int) - 1 by omega] at hr; exact hr)), Hb5.out, by omega, HP5.out, ?_, HO.out.trans HO5.out⟩
                  have h8 := HR5.out
                  rw [h1, h2] at h8
                  exact h8
                · exact absurd ((hnz (j, f) h1 (by have := Hky.out (j, f) h1; dsimp only at this ⊢; omega)).symm.trans hfe) h5)
              clear hz hnz hfe
              go_wp2_with fail
              refine ⟨?_, ?measure⟩
              case measure => simp [intOf]; omega
              exact HRel.out
            · have Hpost := Lib.hid (show PReadPost L N B gp (some ⟨bC, oC, none⟩) nC cC st gs bs w (.returned (.tuple #[.int .i64 fe, .bool true])) v3 from by
                rcases Hend.out with ⟨h1, -⟩ | ⟨j, f, h1, h2, h3, h5, h6⟩
                · exact absurd (hz (fun y hy => by rw [h1] at hy; cases hy)) hfe
                · have hjk : j = gs.length := by
                    refine Decidable.byContradiction fun hn => hfe (hz fun y hy => ?_)
                    rw [h1] at hy; injection hy with hy; subst hy; exact hn
                  have hff : fe = f := hnz (j, f) h1 hjk
                  have h7 := HP5.out
                  have h8 := HR5.out
                  rw [h1, h2, hGl] at h8
                  rw [HG.out] at h7 h8
                  exact ⟨.thrown j f s3, T3, l3, _, Hru.out _ h6, HO.out.trans HO5.out, Hb5.out, h5, .inl ⟨hjk, by rw [hff]⟩, h7, h8⟩)
              have hfe2 : (fe == 0) = false := by simpa using hfe
              clear hz hnz
              go_wp2_with fail
              go_ret2
              exact Hpost.out
      · have hm1 : m - 1 < m := by omega
        have hin := (Hih.out (m - 1) hm1) s2.next G T2 l2 c.n v3 tA tc c.b (by show min L.length 400 - (s2.at_ + 1) ≤ m - 1; omega) HC3.out hBv3 HP3.out HR3.out (Hbd.out.next (by omega)).1 (by show s2.ret.length + G.length ≤ s2.at_ + 1; have h1 := Hbd.out.2.1; have h2 := Hrs.out; omega) (by show s2.many ≤ s2.at_ + 1; exact Hbd.out.2.2.1) (by show s2.at_ + 1 ≤ 400; omega) Hs3.out Hcl.out HcB.out (by omega)
        have Hin := Lib.hid hin
        clear hin hm1 HC3 Hs3
        go_upto_region 12 with (fail)
        go_wp2_with fail
        refine Hin.out.mono ?_
        clear Hin
        rintro e v4 hp
        rcases pr_inner (i := i) (N := N) hp (by rw [Hrs.out]; exact hGl) HO03.out (by omega) (by omega) Hc.out hk (by omega) with ⟨s4, F, G4, T4, l4, rfl, hP4, hG4, hR4, hO04, hBp, hat4, hon⟩ | ⟨s4, j, f, G4, T4, l4, rfl, hP4, hG4, hR4, hO04, hBp, hat4, hj4, hf4, hru4⟩
        · as_aux_lemma =>
          obtain ⟨n4, hn4⟩ : ∃ n, n = G4.length := ⟨_, rfl⟩
          obtain ⟨gX, hgX, -, hgXl⟩ := ownG_some hP4.rows (by rw [hG4.1]; omega)
          have hc4 := own_le hP4.rows
          rw [hG4.1] at hc4
          obtain ⟨v5, hv5⟩ : ∃ w', w' = v4.alloc (.cells #[.int .i64 F] 3) := ⟨_, rfl⟩
          have hb45 : Below v4.heap.size v4 v5 := by rw [hv5]; exact (Below.refl _ _).alloc (Nat.le_refl _) _
          have hU5 : Blk v5 v4.heap.size 3 #[.int .i64 F] := by rw [hv5]; exact Blk.new _ _ _
          have q4 : v4.cell? ⟨gp, 4, none⟩ = some (.slice l4.AE s4.ret.length l4.cE) := hP4.blk.cell 4
          have ql := hP4.blk.lt
          have hrl : s4.ret.length ≤ 401 := by have h1 := hBp.2.1; have h2 := hBp.2.2.2; change (s4.ret ++ [F]).length + _ ≤ s4.at_ + 1 at h1; change s4.at_ ≤ 400 at h2; rw [List.length_append, List.length_singleton] at h1; omega
          have HP5 := Lib.hid (hP4.below hb45)
          have HR5 := Lib.hid (hR4.below hb45)
          have HU5 := Lib.hid hU5
          have Hv5 := Lib.hid hv5
          have HO05 := Lib.hid (hO04.trans (Only.of_fresh hb45))
          have hB5 : B ≤ v5.heap.size := by have := HO05.out.size; omega
          have HBp := Lib.hid hBp
          have Hon := Lib.hid hon
          have HG4 := Lib.hid hG4
          have Hn4 := Lib.hid hn4
          have HgX := Lib.hid hgX
          clear hP4 hR4 hU5 hv5 hO04 hb45 hBp hon hG4 hn4 hgX hgXl hp
          go_wp2_with (refine wpList_at 103 rfl ?_; refine wp_stop ?_)
          try refine ⟨?_⟩
          rw [← Hv5.out]
          clear Hv5
          refine wpList_app rfl (.tmp 100) (.tmp 102) eIntR rfl rfl HP5.out.rt (m := 1) (c' := 1) (us := [.int .i64 F]) rfl (RV.of_blk HU5.out) rfl (by intro v hv; simp only [List.mem_cons, List.not_mem_nil, or_false] at hv; subst hv; rfl) (by unfold maxLen; omega) (by omega) hB5 (by intro h; cases h) ?_
          intro A6 c6 v6 ho6 hg6 hA6
          obtain ⟨hP7, hO57⟩ := HP5.out.pushE F ho6 hg6
          have hO6 : Only (fun b => l4.AE.map (·.block) = some b) v5 v6 := Only.of_grown hg6 fun k e => e
          have hblk6 := HP5.out.blk.only hO6 (fun e => own_blk_ne2 HP5.out.rt HP5.out.blk (by decide) e)
          have q6 : v6.cell? ⟨gp, 4, none⟩ = some (.slice l4.AE s4.ret.length l4.cE) := hblk6.cell 4
          have q6f := hblk6.frozen 4
          have q6l := hblk6.lt
          obtain ⟨v7, hv7⟩ : ∃ w', w' = v6.setCell ⟨gp, 4, none⟩ (.slice A6 (s4.ret.length + 1) c6) := ⟨_, rfl⟩
          rw [← hv7] at hP7 hO57
          have hlow : ∀ b, b = gp ∨ l4.AE.map (·.block) = some b → B ≤ b := fun b e => by
            rcases e with e | e
            · rw [e]; exact HP5.out.low
            · exact (Own.row HP5.out.rt b e).1
          have hR7 := HR5.out.only hO57 (fun b cs hb e => by
            rcases e with e | e
            · rw [e] at hb; exact absurd (blkT_eq hb.ty HP5.out.blk.ty) (by decide)
            · obtain ⟨h1, -, -⟩ := ownG_form HP5.out.rt b e
              obtain ⟨cs2, h2⟩ := own_ty HP5.out.rt h1
              exact absurd (blkT_eq hb.ty h2.ty) (by decide)) hlow
          have hO07 := HO05.out.trans (hO57.mono fun b _ e => hlow b e)
          have z2 : v7.cell? ⟨gp, 2, none⟩ = some (.slice (some ⟨gX, 0, none⟩) n4 l4.cR) := by rw [← HgX.out, Hn4.out]; exact hP7.blk.cell 2
          have z2f := hP7.blk.frozen 2
          have zl := hP7.blk.lt
          obtain ⟨hP8, hO78⟩ := hP7.cutR (gs.length + 1) (by rw [HG4.out.1]; omega)
          rw [show G4.take (gs.length + 1) = G from by rw [← hGl]; exact HG4.out.2] at hP8
          dsimp only at hP8 hO78
          rw [HgX.out] at hP8 hO78
          obtain ⟨v8, hv8⟩ : ∃ w', w' = v7.setCell ⟨gp, 2, none⟩ (.slice (some ⟨gX, 0, none⟩) (gs.length + 1) l4.cR) := ⟨_, rfl⟩
          rw [← hv8] at hP8 hO78
          have hR8 := hR7.only hO78 (fun b cs hb e => by rw [e] at hb; exact absurd (blkT_eq hb.ty hP7.blk.ty) (by decide)) (fun b e => by rw [e]; exact hP7.low)
          have Hmid := Lib.hid (show PrMid L N i B gp (some ⟨bC, oC, none⟩) nC cC s2 G v0 v8 from ⟨s4.pop G.length F, _, none, T4, _, hP8, hR8, HBp.out, hat4, hO07.trans (hO78.mono fun b _ e => by rw [e]; exact hP7.low), .inl ⟨rfl, rfl, Hon.out⟩⟩)
          have hcut : ∀ w', (Instr.slice 65 (.slice (some ⟨gX, 0, none⟩) n4 l4.cR) none (some (.int .i64 ((gs.length : Int) + 1))) none).run Try.prog w' = .ok (.slice (some ⟨gX, 0, none⟩) (gs.length + 1) l4.cR) w' := fun w' => by
            have h := run_cutR w' gX n4 l4.cR (gs.length + 1) (by omega)
            rw [show ((gs.length + 1 : Nat) : Int) = (gs.length : Int) + 1 from rfl] at h
            exact h
          have Hv7 := Lib.hid hv7
          have Hv8 := Lib.hid hv8
          clear ho6 hg6 hA6 hP7 hO57 hO6 hblk6 hv7 hlow hR7 hO07 hP8 hO78 hv8 hR8 HP5 HR5 HU5 HO05 HBp Hon HG4 Hn4 HgX q4 ql
          go_upto_region 15 with (fail)
          rw [← Hv7.out]
          clear Hv7 q6 q6f q6l
          go_upto_region 17 with (fail)
          rw [← Hv8.out]
          clear Hv8 z2 z2f zl hcut
          obtain ⟨s3, rs3, x, T3, l3, hP5, hR5, hb5, hat5, hO5, hend⟩ := Hmid.out
          obtain ⟨gR, hgR, -, hgRl⟩ := ownG_some hP5.rows (by omega)
          have c2 : v8.cell? ⟨gp, 2, none⟩ = some (.slice (some ⟨gR, 0, none⟩) (gs.length + 1) l3.cR) := by rw [← hgR, ← hGl]; exact hP5.blk.cell 2
          have cl := hP5.blk.lt
          have hxn : ∀ y, x = some y → y.2 ≠ 0 ∧ y.1 ≤ gs.length := fun y hy => by
            rcases hend with ⟨h1, -⟩ | ⟨j, f, h1, -, h2, h3, -⟩
            · rw [h1] at hy; cases hy
            · rw [h1] at hy; injection hy with hy; subst hy; exact ⟨h3, by show j ≤ gs.length; omega⟩
          have HP5 := Lib.hid hP5
          have HR5 := Lib.hid hR5
          have Hb5 := Lib.hid hb5
          have HO5 := Lib.hid hO5
          have Hend := Lib.hid hend
          have HgR := Lib.hid hgR
          have Hxn := Lib.hid hxn
          have hwd : IntKind.i64.wrap ((gs.length : Int) + 1 - 1) = (gs.length : Int) := by rw [IntKind.wrap_i64]; omega
          have hwd2 : IntKind.i64.wrap (gs.length : Int) = (gs.length : Int) := by rw [IntKind.wrap_i64]; omega
          have hwr6 : IntKind.i64.wrap ((i : Int) + 1) = (i : Int) + 1 := by rw [IntKind.wrap_i64]; omega
          clear hP5 hR5 hb5 hO5 hend hgR hxn Hmid
          go_wp2_with fail
          go_loopw [14] (fun vk wr => PrK gs.length x v8 vk wr) (fun vk _ => gs.length - (intOf vk).toNat)
          case atStart => exact ⟨0, Nat.zero_le _, rfl, rfl, fun y _ => Nat.zero_le _⟩
          case round =>
            rename World => vq
            obtain ⟨k, hkd, rfl, hvq, hky⟩ := hrel.out
            subst hvq
            clear hrel
            have Hky := Lib.hid hky
            have hwk : IntKind.i64.wrap ((k : Int) + 1) = (k : Int) + 1 := by rw [IntKind.wrap_i64]; omega
            clear hky
            by_cases hk2 : k < gs.length
            · obtain ⟨ge, fe, hge, hce, hcl, hz, hnz⟩ := HR5.out.err k (by omega)
              have hrow := HP5.out.rows
              rw [HgR.out] at hrow
              obtain ⟨rc, -, -⟩ := ownG_at hrow k (by simp; omega)
              rw [List.getElem_map, show G[k]'(by omega) = ge from by rw [List.getElem?_eq_getElem (by omega)] at hge; exact Option.some.inj hge] at rc
              have hkI : (k : Int) < (gs.length : Int) := by omega
              clear hrow hge
              by_cases hfe : fe = 0
              · rw [hfe] at hce
                have HK := Lib.hid (show PrK gs.length x v8 (.int .i64 ((k : Int) + 1)) v8 from ⟨k + 1, hk2, rfl, rfl, fun y hy => by
                  have h1 := Hky.out y hy
                  rcases Nat.lt_or_ge k y.1 with h | h
                  · exact h
                  · exact absurd ((hnz y hy (by omega)).symm.trans hfe) (Hxn.out y hy).1⟩)
                clear hz hnz hfe
                go_wp2_with fail
                refine ⟨?_, ?measure⟩
                case measure => simp [intOf]; omega
                exact HK.out
              · have Hpost := Lib.hid (show PReadPost L N B gp (some ⟨bC, oC, none⟩) nC cC st gs bs w (.returned (.tuple #[.int .i64 0, .bool false])) v8 from by
                  rcases Hend.out with ⟨h1, -⟩ | ⟨j, f, h1, h2, h3, h5, h6⟩
                  · exact absurd (hz (fun y hy => by rw [h1] at hy; cases hy)) hfe
                  · have hjk : j = k := by
                      refine Decidable.byContradiction fun hn => hfe (hz fun y hy => ?_)
                      rw [h1] at hy; injection hy with hy; subst hy; exact hn
                    subst hjk
                    have h7 := HP5.out
                    have h8 := HR5.out
                    rw [h1, h2, hGl] at h8
                    rw [HG.out] at h7 h8
                    exact ⟨.thrown j f s3, T3, l3, g, Hru.out _ h6, HO.out.trans HO5.out, Hb5.out, h5, .inr ⟨hk2, rfl⟩, h7, h8⟩)
                have hfe2 : (fe == 0) = false := by simpa using hfe
                clear hz hnz
                go_wp2_with fail
                go_ret2
                exact Hpost.out
            · obtain rfl : k = gs.length := by omega
              obtain ⟨ge, fe, hge, hce, hcl, hz, hnz⟩ := HR5.out.err gs.length (by omega)
              rw [HGd.out] at hge
              injection hge with hge
              subst hge
              have hkI : ¬ (gs.length : Int) < (gs.length : Int) := by omega
              by_cases hfe : fe = 0
              · rw [hfe] at hce
                have HRel := Lib.hid (show PrR L N B gp (some ⟨bC, oC, none⟩) nC cC st G bs w (.int .i64 ((i : Int) + 1)) v8 from by
                  rcases Hend.out with ⟨h1, h2, h3⟩ | ⟨j, f, h1, h2, h3, h5, h6⟩
                  · refine ⟨i + 1, s3, T3, l3, rfl, fun o hr => Hru.out o (h3 o (by rw [show N - ((i + 1 : Nat) : Int) = N - (i : Int) - 1 by omega] at hr; exact hr)), Hb5.out, by omega, HP5.out, ?_, HO.out.trans HO5.out⟩
                    have h8 := HR5.out
                    rw [h1, h2] at h8
                    exact h8
                  · exact absurd ((hnz (j, f) h1 (by have := Hky.out (j, f) h1; dsimp only at this ⊢; omega)).symm.trans hfe) h5)
                clear hz hnz hfe
                go_wp2_with fail
                refine ⟨?_, ?measure⟩
                case measure => simp [intOf]; omega
                exact HRel.out
              · have Hpost := Lib.hid (show PReadPost L N B gp (some ⟨bC, oC, none⟩) nC cC st gs bs w (.returned (.tuple #[.int .i64 fe, .bool true])) v8 from by
                  rcases Hend.out with ⟨h1, -⟩ | ⟨j, f, h1, h2, h3, h5, h6⟩
                  · exact absurd (hz (fun y hy => by rw [h1] at hy; cases hy)) hfe
                  · have hjk : j = gs.length := by
                      refine Decidable.byContradiction fun hn => hfe (hz fun y hy => ?_)
                      rw [h1] at hy; injection hy with hy; subst hy; exact hn
                    have hff : fe = f := hnz (j, f) h1 hjk
                    have h7 := HP5.out
                    have h8 := HR5.out
                    rw [h1, h2, hGl] at h8
                    rw [HG.out] at h7 h8
                    exact ⟨.thrown j f s3, T3, l3, _, Hru.out _ h6, HO.out.trans HO5.out, Hb5.out, h5, .inl ⟨hjk, by rw [hff]⟩, h7, h8⟩)
                have hfe2 : (fe == 0) = false := by simpa using hfe
                clear hz hnz
                go_wp2_with fail
                go_ret2
                exact Hpost.out
        · as_aux_lemma =>
          obtain ⟨n4, hn4⟩ : ∃ n, n = G4.length := ⟨_, rfl⟩
          obtain ⟨gX, hgX, -, hgXl⟩ := ownG_some hP4.rows (by rw [hG4.1]; omega)
          have hc4 := own_le hP4.rows
          rw [hG4.1] at hc4
          have z2 : v4.cell? ⟨gp, 2, none⟩ = some (.slice (some ⟨gX, 0, none⟩) n4 l4.cR) := by rw [← hgX, hn4]; exact hP4.blk.cell 2
          have z2f := hP4.blk.frozen 2
          have zl := hP4.blk.lt
          obtain ⟨hP8, hO78⟩ := hP4.cutR (gs.length + 1) (by rw [hG4.1]; omega)
          rw [show G4.take (gs.length + 1) = G from by rw [← hGl]; exact hG4.2] at hP8
          rw [hgX] at hP8 hO78
          obtain ⟨v8, hv8⟩ : ∃ w', w' = v4.setCell ⟨gp, 2, none⟩ (.slice (some ⟨gX, 0, none⟩) (gs.length + 1) l4.cR) := ⟨_, rfl⟩
          rw [← hv8] at hP8 hO78
          have hR8 := hR4.only hO78 (fun b cs hb e => by rw [e] at hb; exact absurd (blkT_eq hb.ty hP4.blk.ty) (by decide)) (fun b e => by rw [e]; exact hP4.low)
          have Hmid := Lib.hid (show PrMid L N i B gp (some ⟨bC, oC, none⟩) nC cC s2 G v0 v8 from ⟨s4, _, some (j, f), T4, l4, hP8, hR8, hBp, hat4, hO04.trans (hO78.mono fun b _ e => by rw [e]; exact hP4.low), .inr ⟨j, f, rfl, rfl, hj4, hf4, hru4⟩⟩)
          have hcut : ∀ w', (Instr.slice 65 (.slice (some ⟨gX, 0, none⟩) n4 l4.cR) none (some (.int .i64 ((gs.length : Int) + 1))) none).run Try.prog w' = .ok (.slice (some ⟨gX, 0, none⟩) (gs.length + 1) l4.cR) w' := fun w' => by
            have h := run_cutR w' gX n4 l4.cR (gs.length + 1) (by omega)
            rw [show ((gs.length + 1 : Nat) : Int) = (gs.length : Int) + 1 from rfl] at h
            exact h
          have Hv8 := Lib.hid hv8
          clear hn4 hgX hgXl hP8 hO78 hv8 hR8 hP4 hR4 hO04 hG4 hBp hat4 hj4 hf4 hru4 hp
          go_upto_region 17 with (fail)
          rw [← Hv8.out]
          clear Hv8 z2 z2f zl hcut
          obtain ⟨s3, rs3, x, T3, l3, hP5, hR5, hb5, hat5, hO5, hend⟩ := Hmid.out
          obtain ⟨gR, hgR, -, hgRl⟩ := ownG_some hP5.rows (by omega)
          have c2 : v8.cell? ⟨gp, 2, none⟩ = some (.slice (some ⟨gR, 0, none⟩) (gs.length + 1) l3.cR) := by rw [← hgR, ← hGl]; exact hP5.blk.cell 2
          have cl := hP5.blk.lt
          have hxn : ∀ y, x = some y → y.2 ≠ 0 ∧ y.1 ≤ gs.length := fun y hy => by
            rcases hend with ⟨h1, -⟩ | ⟨j, f, h1, -, h2, h3, -⟩
            · rw [h1] at hy; cases hy
            · rw [h1] at hy; injection hy with hy; subst hy; exact ⟨h3, by show j ≤ gs.length; omega⟩
          have HP5 := Lib.hid hP5
          have HR5 := Lib.hid hR5
          have Hb5 := Lib.hid hb5
          have HO5 := Lib.hid hO5
          have Hend := Lib.hid hend
          have HgR := Lib.hid hgR
          have Hxn := Lib.hid hxn
          have hwd : IntKind.i64.wrap ((gs.length : Int) + 1 - 1) = (gs.length : Int) := by rw [IntKind.wrap_i64]; omega
          have hwd2 : IntKind.i64.wrap (gs.length : Int) = (gs.length : Int) := by rw [IntKind.wrap_i64]; omega
          have hwr6 : IntKind.i64.wrap ((i : Int) + 1) = (i : Int) + 1 := by rw [IntKind.wrap_i64]; omega
          clear hP5 hR5 hb5 hO5 hend hgR hxn Hmid
          go_wp2_with fail
          go_loopw [14] (fun vk wr => PrK gs.length x v8 vk wr) (fun vk _ => gs.length - (intOf vk).toNat)
          case atStart => exact ⟨0, Nat.zero_le _, rfl, rfl, fun y _ => Nat.zero_le _⟩
          case round =>
            rename World => vq
            obtain ⟨k, hkd, rfl, hvq, hky⟩ := hrel.out
            subst hvq
            clear hrel
            have Hky := Lib.hid hky
            have hwk : IntKind.i64.wrap ((k : Int) + 1) = (k : Int) + 1 := by rw [IntKind.wrap_i64]; omega
            clear hky
            by_cases hk2 : k < gs.length
            · obtain ⟨ge, fe, hge, hce, hcl, hz, hnz⟩ := HR5.out.err k (by omega)
              have hrow := HP5.out.rows
              rw [HgR.out] at hrow
              obtain ⟨rc, -, -⟩ := ownG_at hrow k (by simp; omega)
              rw [List.getElem_map, show G[k]'(by omega) = ge from by rw [List.getElem?_eq_getElem (by omega)] at hge; exact Option.some.inj hge] at rc
              have hkI : (k : Int) < (gs.length : Int) := by omega
              clear hrow hge
              by_cases hfe : fe = 0
              · rw [hfe] at hce
                have HK := Lib.hid (show PrK gs.length x v8 (.int .i64 ((k : Int) + 1)) v8 from ⟨k + 1, hk2, rfl, rfl, fun y hy => by
                  have h1 := Hky.out y hy
                  rcases Nat.lt_or_ge k y.1 with h | h
                  · exact h
                  · exact absurd ((hnz y hy (by omega)).symm.trans hfe) (Hxn.out y hy).1⟩)
                clear hz hnz hfe
                go_wp2_with fail
                refine ⟨?_, ?measure⟩
                case measure => simp [intOf]; omega
                exact HK.out
              · have Hpost := Lib.hid (show PReadPost L N B gp (some ⟨bC, oC, none⟩) nC cC st gs bs w (.returned (.tuple #[.int .i64 0, .bool false])) v8 from by
                  rcases Hend.out with ⟨h1, -⟩ | ⟨j, f, h1, h2, h3, h5, h6⟩
                  · exact absurd (hz (fun y hy => by rw [h1] at hy; cases hy)) hfe
                  · have hjk : j = k := by
                      refine Decidable.byContradiction fun hn => hfe (hz fun y hy => ?_)
                      rw [h1] at hy; injection hy with hy; subst hy; exact hn
                    subst hjk
                    have h7 := HP5.out
                    have h8 := HR5.out
                    rw [h1, h2, hGl] at h8
                    rw [HG.out] at h7 h8
                    exact ⟨.thrown j f s3, T3, l3, g, Hru.out _ h6, HO.out.trans HO5.out, Hb5.out, h5, .inr ⟨hk2, rfl⟩, h7, h8⟩)
                have hfe2 : (fe == 0) = false := by simpa using hfe
                clear hz hnz
                go_wp2_with fail
                go_ret2
                exact Hpost.out
            · obtain rfl : k = gs.length := by omega
              obtain ⟨ge, fe, hge, hce, hcl, hz, hnz⟩ := HR5.out.err gs.length (by omega)
              rw [HGd.out] at hge
              injection hge with hge
              subst hge
              have hkI : ¬ (gs.length : Int) < (gs.length : Int) := by omega
              by_cases hfe : fe = 0
              · rw [hfe] at hce
                have HRel := Lib.hid (show PrR L N B gp (some ⟨bC, oC, none⟩) nC cC st G bs w (.int .i64 ((i : Int) + 1)) v8 from by
                  rcases Hend.out with ⟨h1, h2, h3⟩ | ⟨j, f, h1, h2, h3, h5, h6⟩
                  · refine ⟨i + 1, s3, T3, l3, rfl, fun o hr => Hru.out o (h3 o (by rw [show N - ((i + 1 : Nat) : Int) = N - (i : Int) - 1 by omega] at hr; exact hr)), Hb5.out, by omega, HP5.out, ?_, HO.out.trans HO5.out⟩
                    have h8 := HR5.out
                    rw [h1, h2] at h8
                    exact h8
                  · exact absurd ((hnz (j, f) h1 (by have := Hky.out (j, f) h1; dsimp only at this ⊢; omega)).symm.trans hfe) h5)
                clear hz hnz hfe
                go_wp2_with fail
                refine ⟨?_, ?measure⟩
                case measure => simp [intOf]; omega
                exact HRel.out
              · have Hpost := Lib.hid (show PReadPost L N B gp (some ⟨bC, oC, none⟩) nC cC st gs bs w (.returned (.tuple #[.int .i64 fe, .bool true])) v8 from by
                  rcases Hend.out with ⟨h1, -⟩ | ⟨j, f, h1, h2, h3, h5, h6⟩
                  · exact absurd (hz (fun y hy => by rw [h1] at hy; cases hy)) hfe
                  · have hjk : j = gs.length := by
                      refine Decidable.byContradiction fun hn => hfe (hz fun y hy => ?_)
                      rw [h1] at hy; injection hy with hy; subst hy; exact hn
                    have hff : fe = f := hnz (j, f) h1 hjk
                    have h7 := HP5.out
                    have h8 := HR5.out
                    rw [h1, h2, hGl] at h8
                    rw [HG.out] at h7 h8
                    exact ⟨.thrown j f s3, T3, l3, _, Hru.out _ h6, HO.out.trans HO5.out, Hb5.out, h5, .inl ⟨hjk, by rw [hff]⟩, h7, h8⟩)
                have hfe2 : (fe == 0) = false := by simpa using hfe
                clear hz hnz
                go_wp2_with fail
                go_ret2
                exact Hpost.out
    · as_aux_lemma =>
      have hcall := refCall_any v3 s2.next G T2 l2 c tA tc HP3.out HR3.out (by omega) (by omega) (by have h1 := Hbd.out.1; have h2 := Hbd.out.2.2.2; show s2.told.length ≤ 400; omega) hBv3
      rw [show ((G.length : Nat) : Int) = (gs.length : Int) + 1 by rw [hGl]; rfl] at hcall
      have Hcall := Lib.hid hcall
      clear hcall HC3 Hs3
      go_wp2_with fail
      refine Hcall.out.mono ?_
      clear Hcall
      rintro e v4 hp
      obtain ⟨rfl, hmid⟩ := pr_call (i := i) (N := N) hp Hbd.out HR3.out.len HO03.out (by omega) (by omega) Hc.out hk (by omega)
      have Hmid := Lib.hid hmid
      clear hmid hp
      go_upto_region 17 with (fail)
      obtain ⟨s3, rs3, x, T3, l3, hP5, hR5, hb5, hat5, hO5, hend⟩ := Hmid.out
      obtain ⟨gR, hgR, -, hgRl⟩ := ownG_some hP5.rows (by omega)
      have c2 : v4.cell? ⟨gp, 2, none⟩ = some (.slice (some ⟨gR, 0, none⟩) (gs.length + 1) l3.cR) := by rw [← hgR, ← hGl]; exact hP5.blk.cell 2
      have cl := hP5.blk.lt
      have hxn : ∀ y, x = some y → y.2 ≠ 0 ∧ y.1 ≤ gs.length := fun y hy => by
        rcases hend with ⟨h1, -⟩ | ⟨j, f, h1, -, h2, h3, -⟩
        · rw [h1] at hy; cases hy
        · rw [h1] at hy; injection hy with hy; subst hy; exact ⟨h3, by show j ≤ gs.length; omega⟩
      have HP5 := Lib.hid hP5
      have HR5 := Lib.hid hR5
      have Hb5 := Lib.hid hb5
      have HO5 := Lib.hid hO5
      have Hend := Lib.hid hend
      have HgR := Lib.hid hgR
      have Hxn := Lib.hid hxn
      have hwd : IntKind.i64.wrap ((gs.length : Int) + 1 - 1) = (gs.length : Int) := by rw [IntKind.wrap_i64]; omega
      have hwd2 : IntKind.i64.wrap (gs.length : Int) = (gs.length : Int) := by rw [IntKind.wrap_i64]; omega
      have hwr6 : IntKind.i64.wrap ((i : Int) + 1) = (i : Int) + 1 := by rw [IntKind.wrap_i64]; omega
      clear hP5 hR5 hb5 hO5 hend hgR hxn Hmid
      go_wp2_with fail
      go_loopw [14] (fun vk wr => PrK gs.length x v4 vk wr) (fun vk _ => gs.length - (intOf vk).toNat)
      case atStart => exact ⟨0, Nat.zero_le _, rfl, rfl, fun y _ => Nat.zero_le _⟩
      case round =>
        rename World => vq
        obtain ⟨k, hkd, rfl, hvq, hky⟩ := hrel.out
        subst hvq
        clear hrel
        have Hky := Lib.hid hky
        have hwk : IntKind.i64.wrap ((k : Int) + 1) = (k : Int) + 1 := by rw [IntKind.wrap_i64]; omega
        clear hky
        by_cases hk2 : k < gs.length
        · obtain ⟨ge, fe, hge, hce, hcl, hz, hnz⟩ := HR5.out.err k (by omega)
          have hrow := HP5.out.rows
          rw [HgR.out] at hrow
          obtain ⟨rc, -, -⟩ := ownG_at hrow k (by simp; omega)
          rw [List.getElem_map, show G[k]'(by omega) = ge from by rw [List.getElem?_eq_getElem (by omega)] at hge; exact Option.some.inj hge] at rc
          have hkI : (k : Int) < (gs.length : Int) := by omega
          clear hrow hge
          by_cases hfe : fe = 0
          · rw [hfe] at hce
            have HK := Lib.hid (show PrK gs.length x v4 (.int .i64 ((k : Int) + 1)) v4 from ⟨k + 1, hk2, rfl, rfl, fun y hy => by
              have h1 := Hky.out y hy
              rcases Nat.lt_or_ge k y.1 with h | h
              · exact h
              · exact absurd ((hnz y hy (by omega)).symm.trans hfe) (Hxn.out y hy).1⟩)
            clear hz hnz hfe
            go_wp2_with fail
            refine ⟨?_, ?measure⟩
            case measure => simp [intOf]; omega
            exact HK.out
          · have Hpost := Lib.hid (show PReadPost L N B gp (some ⟨bC, oC, none⟩) nC cC st gs bs w (.returned (.tuple #[.int .i64 0, .bool false])) v4 from by
              rcases Hend.out with ⟨h1, -⟩ | ⟨j, f, h1, h2, h3, h5, h6⟩
              · exact absurd (hz (fun y hy => by rw [h1] at hy; cases hy)) hfe
              · have hjk : j = k := by
                  refine Decidable.byContradiction fun hn => hfe (hz fun y hy => ?_)
                  rw [h1] at hy; injection hy with hy; subst hy; exact hn
                subst hjk
                have h7 := HP5.out
                have h8 := HR5.out
                rw [h1, h2, hGl] at h8
                rw [HG.out] at h7 h8
                exact ⟨.thrown j f s3, T3, l3, g, Hru.out _ h6, HO.out.trans HO5.out, Hb5.out, h5, .inr ⟨hk2, rfl⟩, h7, h8⟩)
            have hfe2 : (fe == 0) = false := by simpa using hfe
            clear hz hnz
            go_wp2_with fail
            go_ret2
            exact Hpost.out
        · obtain rfl : k = gs.length := by omega
          obtain ⟨ge, fe, hge, hce, hcl, hz, hnz⟩ := HR5.out.err gs.length (by omega)
          rw [HGd.out] at hge
          injection hge with hge
          subst hge
          have hkI : ¬ (gs.length : Int) < (gs.length : Int) := by omega
          by_cases hfe : fe = 0
          · rw [hfe] at hce
            have HRel := Lib.hid (show PrR L N B gp (some ⟨bC, oC, none⟩) nC cC st G bs w (.int .i64 ((i : Int) + 1)) v4 from by
              rcases Hend.out with ⟨h1, h2, h3⟩ | ⟨j, f, h1, h2, h3, h5, h6⟩
              · refine ⟨i + 1, s3, T3, l3, rfl, fun o hr => Hru.out o (h3 o (by rw [show N - ((i + 1 : Nat) : Int) = N - (i : Int) - 1 by omega] at hr; exact hr)), Hb5.out, by omega, HP5.out, ?_, HO.out.trans HO5.out⟩
                have h8 := HR5.out
                rw [h1, h2] at h8
                exact h8
              · exact absurd ((hnz (j, f) h1 (by have := Hky.out (j, f) h1; dsimp only at this ⊢; omega)).symm.trans hfe) h5)
            clear hz hnz hfe
            go_wp2_with fail
            refine ⟨?_, ?measure⟩
            case measure => simp [intOf]; omega
            exact HRel.out
          · have Hpost := Lib.hid (show PReadPost L N B gp (some ⟨bC, oC, none⟩) nC cC st gs bs w (.returned (.tuple #[.int .i64 fe, .bool true])) v4 from by
              rcases Hend.out with ⟨h1, -⟩ | ⟨j, f, h1, h2, h3, h5, h6⟩
              · exact absurd (hz (fun y hy => by rw [h1] at hy; cases hy)) hfe
              · have hjk : j = gs.length := by
                  refine Decidable.byContradiction fun hn => hfe (hz fun y hy => ?_)
                  rw [h1] at hy; injection hy with hy; subst hy; exact hn
                have hff : fe = f := hnz (j, f) h1 hjk
                have h7 := HP5.out
                have h8 := HR5.out
                rw [h1, h2, hGl] at h8
                rw [HG.out] at h7 h8
                exact ⟨.thrown j f s3, T3, l3, _, Hru.out _ h6, HO.out.trans HO5.out, Hb5.out, h5, .inl ⟨hjk, by rw [hff]⟩, h7, h8⟩)
            have hfe2 : (fe == 0) = false := by simpa using hfe
            clear hz hnz
            go_wp2_with fail
            go_ret2
            exact Hpost.out
end Go.Proofs.Ytefaapcekbgjoaa
