/- Another Read within a script: the program's inner. -/
import Derived.Test.YtefaapcekbgjoaaMrI
import Derived.Test.YtefaapcekbgjoaaRefK
namespace Go.Proofs.Ytefaapcekbgjoaa
open Go.RowKit

theorem err_info : (Try.prog.info? 37).map (fun i => (i.zero, i.size, i.bytes)) = some (some (.int .i64 0), 1, 8) := by kernel_rfl
theorem eErrno : Elem Try.prog 57 37 1 8 := elem_of Try.underlying57 err_info rfl (by decide)
section
variable {w w' w6 w7 : World} {B gs nC cC : Nat} {AC A2 : Option Addr} {c2 : Nat} {st : PS} {ms ks : List Gm} {TA : List (Option Addr × Nat)} {l : Sl7} {t : Nat} {x : Option (Nat × Int)} {Z Z' : Nat → Prop}
theorem StM.narrow (h : StM w B gs AC nC cC st ms ks TA l t x Z') (hz : ∀ b, Z b → Z' b) : StM w B gs AC nC cC st ms ks TA l t x Z :=
  ⟨h.sc, h.rd, h.sub, h.xt, h.one, fun q hq b o e hb => h.avt q hq b o e (hz b hb), fun m hm b o e hb => h.avr m hm b o e (hz b hb)⟩
/-- A block that is newer than all that the script holds. -/
theorem StM.widen (h : StM w B gs AC nC cC st ms ks TA l ms.length none Z) {gl : Nat} (hz : w.heap.size ≤ gl) : StM w B gs AC nC cC st ms ks TA l ms.length none (fun b => Z b ∨ b = gl) := by
  refine ⟨h.sc, h.rd, h.sub, h.xt, h.one, fun q hq b o e hb => ?_, fun m hm b o e hb => ?_⟩
  · rcases hb with hb | hb
    · exact h.avt q hq b o e hb
    · obtain ⟨i, hi⟩ := List.mem_iff_getElem?.1 hq
      have hl : i < st.told.length := by rw [← h.sc.tlen]; exact (List.getElem?_eq_some_iff.1 hi).1
      have := ((h.sc.tb i _ q (List.getElem?_eq_getElem hl) hi).ty b o e).lt
      omega
  · rcases hb with hb | hb
    · exact h.avr m hm b o e hb
    · rcases h.rd.over m hm with ⟨i, h1, h2⟩ | ⟨bs, a, f, h1⟩
      · have := ((h.rd.good i m _ h1 h2 (List.getElem?_eq_getElem (by rw [← h.sc.rlen]; exact h1)) (fun y e => by cases e)).1.ty b o e).lt
        omega
      · have := (h1.ty b o e).lt
        omega
/-- An answer more. -/
theorem StM.ret (h : StM w6 B gs AC nC cC st ms ks TA l t x Z) (v : Int) (ho : Own w7 B 37 1 A2 (st.ret.length + 1) c2 ((st.ret.map fun e => .int .i64 e) ++ [.int .i64 v])) (hg : w6.grownBy w7 (l.AE.map (·.block))) :
    StM (w7.setCell ⟨gs, 5, none⟩ (.slice A2 (st.ret.length + 1) c2)) B gs AC nC cC (st.retd v) ms ks TA ⟨l.AR, l.cR, l.AK, l.cK, l.AT, l.cT, A2, c2⟩ t x Z ∧ Only (fun b => b = gs ∨ l.AE.map (·.block) = some b) w6 (w7.setCell ⟨gs, 5, none⟩ (.slice A2 (st.ret.length + 1) c2)) := by
  obtain ⟨h1, h2⟩ := h.sc.raw.pushE v ho hg
  have hn : ∀ b ty, BlkT w6 b ty → ty ≠ 59 → ty ≠ 37 → ¬ (b = gs ∨ l.AE.map (·.block) = some b) := fun b ty hb n1 n2 e => by
    rcases e with e | e
    · rw [e] at hb; exact n1 (blkT_eq hb h.sc.blk.ty)
    · obtain ⟨h3, -, -⟩ := ownG_form h.sc.ret b e
      obtain ⟨cs, h4⟩ := own_ty h.sc.ret h3
      exact n2 (blkT_eq hb h4.ty)
  have hr := h.rd.only h2 (fun b cs hb => hn b _ hb.ty (by decide) (by decide)) (fun b hb => hn b _ hb (by decide) (by decide))
  exact ⟨⟨ScR.mk' (st := st.retd v) h1 h.sc.rlen h.sc.many h.sc.sole h.sc.base, ⟨hr.good, hr.bad, hr.over⟩, h.sub, h.xt, h.one, h.avt, h.avr⟩, h2⟩
end
theorem bnd_pop {L : List PCall} {st : PS} {bs : List UInt8} {N : Int} {o : POut} {d : Nat} (h : Runs L (st.push bs) N o) (hd : st.rs.length = d) (hb : Bnd o.st) (e : Int) : Bnd (o.st.pop d e) := by
  have h1 := h.keeps d (by show d < (st.rs ++ [(bs, 0)]).length; rw [List.length_append, hd]; exact Nat.lt_succ_self _)
  have h2 : d < o.st.rs.length := by
    refine Nat.lt_of_not_le fun hn => ?_
    rw [List.getElem?_eq_none hn] at h1
    rw [show (st.push bs).rs = st.rs ++ [(bs, 0)] from rfl, List.getElem?_append_right (by omega), hd, Nat.sub_self] at h1
    cases h1
  obtain ⟨c1, c2, c3, c4⟩ := hb
  refine ⟨c1, ?_, c3, c4⟩
  show (o.st.ret ++ [e]).length + (o.st.rs.take d).length ≤ o.st.at_ + 1
  rw [List.length_append, List.length_take, List.length_singleton]
  omega
set_option maxRecDepth 100000 in
set_option maxHeartbeats 4000000 in
theorem inner_any {L : List PCall} {B gs nC cC m : Nat} {AC : Option Addr} (hrun : RunC L B gs AC nC cC m) (st : PS) (ms ks : List Gm) (TA : List (Option Addr × Nat)) (l : Sl7) (Z : Nat → Prop) (w : World) (c : PCall) (cA : Option Addr) (cc : Nat)
    (hleft : min L.length 400 - st.at_ ≤ m) (hC : CallsM w B AC L) (hB : B ≤ w.heap.size) (h : StM w B gs AC nC cC st ms ks TA l ms.length none Z) (b1 : st.told.length ≤ st.at_) (b2 : st.ret.length + ms.length ≤ st.at_) (b3 : st.many ≤ st.at_) (b4 : st.at_ ≤ 400)
    (hs : Sl w ⟨cA, cc, c.b⟩) (hcl : c.b.length ≤ 140737488351232) (hcA : 0 < c.b.length → ∀ b o, cA = some ⟨b, o, none⟩ → b < B) (hZ : ∀ b, Z b → b < w.heap.size) (hd : ms.length < 20) :
    Calls Try.prog 64 #[pv gs, .agg #[.int .i64 c.kind, .int .i64 c.n, .int .i64 c.out, .slice cA c.b.length cc]] w (InnerPost L c B gs AC nC cC st ms ks l Z w) := by
  have hmf : ∀ (fn : Fn) (first cap : Array Value) (w : World), (Instr.makeFunc fn first cap).run Try.prog w = .ok (.func fn first cap) w := fun _ _ _ _ => rfl
  obtain ⟨w1, hw1⟩ : ∃ w', w' = w.alloc (.cells #[.int .i64 c.kind, .int .i64 c.n, .int .i64 c.out, .slice cA c.b.length cc] 111) := ⟨_, rfl⟩
  obtain ⟨gb, hgb⟩ : ∃ g, g = w.heap.size := ⟨_, rfl⟩
  have hb1 : Below w.heap.size w w1 := by rw [hw1]; exact (Below.refl _ _).alloc (Nat.le_refl _) _
  have hC1 : Blk w1 gb 111 #[.int .i64 c.kind, .int .i64 c.n, .int .i64 c.out, .slice cA c.b.length cc] := by rw [hw1, hgb]; exact Blk.new _ _ _
  obtain ⟨w2, hw2⟩ : ∃ w', w' = w1.alloc (.cells #[pv gs, .int .i64 c.n] 62) := ⟨_, rfl⟩
  obtain ⟨gf, hgf⟩ : ∃ g, g = w1.heap.size := ⟨_, rfl⟩
  have hb12 : Below w1.heap.size w1 w2 := by rw [hw2]; exact (Below.refl _ _).alloc (Nat.le_refl _) _
  have hF2 : Blk w2 gf 62 #[pv gs, .int .i64 c.n] := by rw [hw2, hgf]; exact Blk.new _ _ _
  have hb2 : Below w.heap.size w w2 := hb1.trans (hb12.mono hb1.size)
  have hC2 := hC1.below hb12 hC1.lt
  have n1 : w1.cell? ⟨gb, 1, none⟩ = some (.int .i64 c.n) := hC1.cell 1
  have n1l := hC1.lt
  have n3 : w2.cell? ⟨gb, 3, none⟩ = some (.slice cA c.b.length cc) := hC2.cell 3
  have n3l := hC2.lt
  have Hlend := Lib.hid (lend_any ⟨cA, cc, c.b⟩ w2 (hs.below hb2) (by dsimp only; omega))
  have H := Lib.hid h
  have HC := Lib.hid hC
  have Hs := Lib.hid hs
  have Hb2 := Lib.hid hb2
  have HC2 := Lib.hid hC2
  have HF2 := Lib.hid hF2
  have Hw1 := Lib.hid hw1
  have Hgb := Lib.hid hgb
  have Hw2 := Lib.hid hw2
  have Hgf := Lib.hid hgf
  have HcA := Lib.hid hcA
  have HZ := Lib.hid hZ
  have Hrun := Lib.hid hrun
  have Hcz := Lib.hid (show w.heap.size ≤ gb ∧ w.heap.size ≤ gf from ⟨by rw [hgb]; exact Nat.le_refl _, by rw [hgf]; exact hb1.size⟩)
  clear h hC hs hb1 hb12 hb2 hC1 hC2 hF2 hw1 hgb hw2 hgf hcA hZ hrun
  go_enter Try.func64, Try.ntmps64
  go_upto_region 1 with (fail)
  rw [← Hw1.out, ← Hgb.out]
  clear Hw1
  go_upto_region 2 with (fail)
  rw [← Hw2.out, ← Hgf.out]
  clear Hw2 n1 n1l
  go_wp2_with fail
  refine Hlend.out.mono ?_
  rintro e w3 ⟨gl, rfl, hgl, hlz, hb3⟩
  try dsimp only at hgl hlz hb3
  have hz2 := Hb2.out.size
  have hb03 : Below w.heap.size w w3 := Hb2.out.trans (hb3.mono hz2)
  have hmine : Sl w3 ⟨some ⟨gl, 0, none⟩, c.b.length + 5, c.b⟩ := by
    refine ⟨?_, fun h => by cases h⟩
    have h1 : RV w3 (some ⟨gl, 0, none⟩) (lentL c.b 5 5) := by simpa using RV.of_blk hgl
    have h2 := h1.cut 0 c.b.length
    simpa [lentL] using h2
  have hread := read_script Hrun.out st ms ks TA l (fun b => Z b ∨ b = gl) w3 ⟨some ⟨gl, 0, none⟩, c.b.length + 5, c.b⟩ gf c.n hmine (by dsimp only; omega) hleft (HC.out.only (S := fun _ => False) (Only.of_fresh hb03) (fun _ e => e.elim)) (by have := hb03.size; omega)
    ((H.out.widen (gl := gl) (by omega)).below hb03) b1 b2 b3 b4 (HF2.out.below hb3 HF2.out.lt) (fun b hb => by
      rcases hb with hb | hb
      · have := HZ.out b hb; have := hb03.size; omega
      · rw [hb]; exact hgl.lt) hd
  dsimp only at hread
  have hC3 := HC2.out.below hb3 HC2.out.lt
  have Hread := Lib.hid hread
  have Hb03 := Lib.hid hb03
  have Hgl := Lib.hid hgl
  have Hlz := Lib.hid (show w.heap.size ≤ gl from by omega)
  have HC3 := Lib.hid hC3
  clear hread hb03 hgl hlz hmine hb3 hC3 Hlend n3 n3l hz2 HC2
  go_wp2_with fail
  refine Hread.out.mono ?_
  clear Hread
  rintro e w4 ⟨out, xs, kx, T2, l2, hR, hO4, hG, hx, hm⟩
  have hz3 := Hb03.out.size
  -- what is common
  have hft : ∀ b, Ft gs ms l b → B ≤ b ∧ b < w.heap.size := fun b hb => ⟨H.out.ft hb, H.out.ftlt hb⟩
  have hO04 : Only (Ft gs ms l) w w4 := (Only.of_fresh Hb03.out).trans hO4
  have hgl4 : Blk w4 gl 5 (lentL c.b 5 5).toArray := Hgl.out.only hO4 (fun e => by have := (hft gl e).2; have := Hlz.out; omega)
  have hs4 : Sl w4 ⟨cA, cc, c.b⟩ := Hs.out.only hO04 (fun b o h0 e hb => by have := HcA.out h0 b o e; have := (hft b hb).1; omega)
  have hC4 := HC3.out.only hO4 (fun e => by have := (hft gb e).2; have := Hcz.out.1; omega)
  have hgw : GrewL w l l2 := (GrewL.refl w l).trans hG hz3
  have hxw : ∀ m ∈ xs, w.heap.size ≤ m.g := fun m hm => by have := hx m hm; omega
  have HR := Lib.hid hR
  have HO4 := Lib.hid hO04
  have Hgw := Lib.hid hgw
  have Hxw := Lib.hid hxw
  have Hgl4 := Lib.hid hgl4
  have Hs4 := Lib.hid hs4
  have Hft := Lib.hid hft
  have d3 : w4.cell? ⟨gb, 3, none⟩ = some (.slice cA c.b.length cc) := hC4.cell 3
  have d3l := hC4.lt
  clear hR hO4 hG hx hO04 hgl4 hs4 hC4 hgw hxw hft HC3 Hgl
  cases out with
  | ok s2 =>
    obtain ⟨hbd, rfl, hSt⟩ := hm
    have Hbd := Lib.hid hbd
    have HSt := Lib.hid hSt
    have Hbn := Lib.hid (bnd_pop HR.out H.out.sc.rlen.symm hbd (s2.tail ms.length))
    clear hbd hSt
    go_wp2_with fail
    refine (back_any ⟨cA, cc, c.b⟩ gl w4 Hs4.out (by dsimp only; omega) Hgl4.out).mono ?_
    rintro e w5 ⟨rfl, hO5⟩
    have hSt5 := (HSt.out.only hO5 (fun b ty hb n1 n2 e => n1 (blkT_eq (by rw [e] at hb; exact hb) Hgl4.out.ty)) (fun b e1 e2 => by
      obtain ⟨h1, -, -⟩ := ownG_form HSt.out.sc.ret b e1
      obtain ⟨cs, h2⟩ := own_ty HSt.out.sc.ret h1
      rw [e2] at h2
      exact absurd (blkT_eq h2.ty Hgl4.out.ty) (by decide)) (fun b e _ => .inr e)).narrow (Z := Z) (fun b hb => .inl hb)
    have hO05 : Only (Ft gs ms l) w w5 := HO4.out.more hO5 fun b hb e => by have := Hlz.out; omega
    obtain ⟨w6, hw6⟩ : ∃ w', w' = w5.alloc (.cells #[.int .i64 (s2.tail ms.length)] 37) := ⟨_, rfl⟩
    have hb56 : Below w5.heap.size w5 w6 := by rw [hw6]; exact (Below.refl _ _).alloc (Nat.le_refl _) _
    have hU6 : Blk w6 w5.heap.size 37 #[.int .i64 (s2.tail ms.length)] := by rw [hw6]; exact Blk.new _ _ _
    have s5 : w5.cell? ⟨gs, 5, none⟩ = some (.slice l2.AE s2.ret.length l2.cE) := hSt5.sc.blk.cell 5
    have sl5 := hSt5.sc.blk.lt
    have HSt6 := Lib.hid (hSt5.below hb56)
    have HU6 := Lib.hid hU6
    have Hw6 := Lib.hid hw6
    have HO6 := Lib.hid (hO05.trans (Only.of_fresh hb56))
    have hB6 : B ≤ w6.heap.size := by have := HO6.out.size; omega
    have hrl : s2.ret.length ≤ 401 := by have h1 := Hbd.out.2.1; have h2 := Hbd.out.2.2.2; omega
    clear hO5 hSt5 hO05 hw6 hb56 hU6 d3 d3l
    go_upto_region 6 with (fail)
    go_wp2_with (refine wpList_at 34 rfl ?_; refine wp_stop ?_)
    try refine ⟨?_⟩
    rw [← Hw6.out]
    clear Hw6
    refine wpList_app rfl (.tmp 31) (.tmp 33) eErrno rfl rfl HSt6.out.sc.ret (m := 1) (c' := 1) (us := [.int .i64 (s2.tail ms.length)]) rfl (RV.of_blk HU6.out) rfl (by intro v hv; simp only [List.mem_cons, List.not_mem_nil, or_false] at hv; subst hv; rfl) (by unfold maxLen; omega) (by omega) hB6 (by intro h; cases h) ?_
    intro A2 c2 w7 ho7 hg7 hA7
    obtain ⟨hStn, hOn⟩ := HSt6.out.ret (s2.tail ms.length) ho7 hg7
    have hO7 : Only (fun b => l2.AE.map (·.block) = some b) w6 w7 := Only.of_grown hg7 fun k e => e
    have hblk7 := HSt6.out.sc.blk.only hO7 (fun e => own_blk_ne2 HSt6.out.sc.ret HSt6.out.sc.blk (by decide) e)
    have t5 : w7.cell? ⟨gs, 5, none⟩ = some (.slice l2.AE s2.ret.length l2.cE) := hblk7.cell 5
    have tf5 := hblk7.frozen 5
    have tl7 := hblk7.lt
    have hgr : Grew w l2.AE A2 := fun b e => by
      rcases hA7 with h | h
      · rw [h] at e; exact .inl e
      · rw [h] at e; injection e with e; have := HO6.out.size; exact .inr (by omega)
    have hgl3 : GrewL w l ⟨l2.AR, l2.cR, l2.AK, l2.cK, l2.AT, l2.cT, A2, c2⟩ := ⟨Hgw.out.r, Hgw.out.k, Hgw.out.t, Hgw.out.e.trans hgr (Nat.le_refl _)⟩
    have hOl := HO6.out.more hOn fun b hb e => by
      rcases e with e | e
      · exact .inl e
      · rcases Hgw.out.e b e with h1 | h1
        · exact .inr (.inr (.inr (.inr (.inl h1))))
        · omega
    have Hpost := Lib.hid (show InnerPost L c B gs AC nC cC st ms ks l Z w (.returned (.tuple #[])) (w7.setCell ⟨gs, 5, none⟩ (.slice A2 (s2.ret.length + 1) c2)) from ⟨.ok s2, xs, kx, T2, _, HR.out, hOl, hgl3, Hxw.out, Hbn.out, rfl, hStn⟩)
    clear ho7 hg7 hA7 hStn hOn hO7 hblk7 hgr hgl3 hOl s5 sl5
    go_wp2_with fail
    go_end0
    exact Hpost.out
  | thrown j f s2 =>
    obtain ⟨hbd, hf, ⟨rfl, rfl, hSt⟩ | ⟨hj, hSt, mm, hmm, old, rfl, hold⟩⟩ := hm
    · have Hbd := Lib.hid hbd
      have HSt := Lib.hid hSt
      have Hbn := Lib.hid (bnd_pop HR.out H.out.sc.rlen.symm hbd f)
      clear hbd hSt
      go_wp2_with fail
      refine (back_any ⟨cA, cc, c.b⟩ gl w4 Hs4.out (by dsimp only; omega) Hgl4.out).mono ?_
      rintro e w5 ⟨rfl, hO5⟩
      have hSt5 := (HSt.out.only hO5 (fun b ty hb n1 n2 e => n1 (blkT_eq (by rw [e] at hb; exact hb) Hgl4.out.ty)) (fun b e1 e2 => by
        obtain ⟨h1, -, -⟩ := ownG_form HSt.out.sc.ret b e1
        obtain ⟨cs, h2⟩ := own_ty HSt.out.sc.ret h1
        rw [e2] at h2
        exact absurd (blkT_eq h2.ty Hgl4.out.ty) (by decide)) (fun b e _ => .inr e)).narrow (Z := Z) (fun b hb => .inl hb)
      have hO05 : Only (Ft gs ms l) w w5 := HO4.out.more hO5 fun b hb e => by have := Hlz.out; omega
      obtain ⟨w6, hw6⟩ : ∃ w', w' = w5.alloc (.cells #[.int .i64 (f)] 37) := ⟨_, rfl⟩
      have hb56 : Below w5.heap.size w5 w6 := by rw [hw6]; exact (Below.refl _ _).alloc (Nat.le_refl _) _
      have hU6 : Blk w6 w5.heap.size 37 #[.int .i64 (f)] := by rw [hw6]; exact Blk.new _ _ _
      have s5 : w5.cell? ⟨gs, 5, none⟩ = some (.slice l2.AE s2.ret.length l2.cE) := hSt5.sc.blk.cell 5
      have sl5 := hSt5.sc.blk.lt
      have HSt6 := Lib.hid (hSt5.below hb56)
      have HU6 := Lib.hid hU6
      have Hw6 := Lib.hid hw6
      have HO6 := Lib.hid (hO05.trans (Only.of_fresh hb56))
      have hB6 : B ≤ w6.heap.size := by have := HO6.out.size; omega
      have hrl : s2.ret.length ≤ 401 := by have h1 := Hbd.out.2.1; have h2 := Hbd.out.2.2.2; omega
      clear hO5 hSt5 hO05 hw6 hb56 hU6 d3 d3l
      go_upto_region 6 with (fail)
      go_wp2_with (refine wpList_at 34 rfl ?_; refine wp_stop ?_)
      try refine ⟨?_⟩
      rw [← Hw6.out]
      clear Hw6
      refine wpList_app rfl (.tmp 31) (.tmp 33) eErrno rfl rfl HSt6.out.sc.ret (m := 1) (c' := 1) (us := [.int .i64 (f)]) rfl (RV.of_blk HU6.out) rfl (by intro v hv; simp only [List.mem_cons, List.not_mem_nil, or_false] at hv; subst hv; rfl) (by unfold maxLen; omega) (by omega) hB6 (by intro h; cases h) ?_
      intro A2 c2 w7 ho7 hg7 hA7
      obtain ⟨hStn, hOn⟩ := HSt6.out.ret (f) ho7 hg7
      have hO7 : Only (fun b => l2.AE.map (·.block) = some b) w6 w7 := Only.of_grown hg7 fun k e => e
      have hblk7 := HSt6.out.sc.blk.only hO7 (fun e => own_blk_ne2 HSt6.out.sc.ret HSt6.out.sc.blk (by decide) e)
      have t5 : w7.cell? ⟨gs, 5, none⟩ = some (.slice l2.AE s2.ret.length l2.cE) := hblk7.cell 5
      have tf5 := hblk7.frozen 5
      have tl7 := hblk7.lt
      have hgr : Grew w l2.AE A2 := fun b e => by
        rcases hA7 with h | h
        · rw [h] at e; exact .inl e
        · rw [h] at e; injection e with e; have := HO6.out.size; exact .inr (by omega)
      have hgl3 : GrewL w l ⟨l2.AR, l2.cR, l2.AK, l2.cK, l2.AT, l2.cT, A2, c2⟩ := ⟨Hgw.out.r, Hgw.out.k, Hgw.out.t, Hgw.out.e.trans hgr (Nat.le_refl _)⟩
      have hOl := HO6.out.more hOn fun b hb e => by
        rcases e with e | e
        · exact .inl e
        · rcases Hgw.out.e b e with h1 | h1
          · exact .inr (.inr (.inr (.inr (.inl h1))))
          · omega
      have Hpost := Lib.hid (show InnerPost L c B gs AC nC cC st ms ks l Z w (.returned (.tuple #[])) (w7.setCell ⟨gs, 5, none⟩ (.slice A2 (s2.ret.length + 1) c2)) from ⟨.thrown ms.length f s2, xs, kx, T2, _, HR.out, hOl, hgl3, Hxw.out, hf, .inl ⟨rfl, Hbn.out, rfl, hStn⟩⟩)
      clear ho7 hg7 hA7 hStn hOn hO7 hblk7 hgr hgl3 hOl s5 sl5
      go_wp2_with fail
      go_end0
      exact Hpost.out
    · exact ⟨rfl, .thrown j f s2, xs, kx, T2, l2, HR.out, HO4.out, Hgw.out, Hxw.out, hf, .inr ⟨hj, hbd, hSt.narrow (fun b hb => .inl hb), mm, hmm, old, rfl, hold⟩⟩
end Go.Proofs.Ytefaapcekbgjoaa
