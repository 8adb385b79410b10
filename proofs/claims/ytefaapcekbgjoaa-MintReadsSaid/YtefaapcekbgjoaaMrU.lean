/- The script's run: the program's. -/
import Derived.Test.YtefaapcekbgjoaaMrS
namespace Go.Proofs.Ytefaapcekbgjoaa
open Go.RowKit

theorem ptr_info : (Try.prog.info? 49).map (fun i => (i.zero, i.size, i.bytes)) = some (some (.pointer none), 1, 8) := by kernel_rfl
theorem ePtr : Elem Try.prog 55 49 1 8 := elem_of Try.underlying55 ptr_info rfl (by decide)
theorem ft_raw {gs : Nat} {ms : List Gm} {l : Sl7} {b : Nat} (h : b = gs ∨ l.AR.map (·.block) = some b) : Ft gs ms l b := h.elim .inl fun e => .inr (.inl e)
/-- The script's loop. -/
structure RunR (L : List PCall) (N : Int) (B gs : Nat) (AC : Option Addr) (nC cC : Nat) (st : PS) (ms ks : List Gm) (l : Sl7) (Z : Nat → Prop) (m0 : Gm) (bs : List UInt8) (w1 : World) (vi : Value) (wr : World) : Prop where
  out : ∃ (i : Nat) (s2 : PS) (kx : List Gm) (T2 : List (Option Addr × Nat)) (l2 : Sl7), vi = .int .i64 (i : Int) ∧ (∀ o, Runs L s2 (N - (i : Int)) o → Runs L (st.push bs) N o) ∧ Bnd s2 ∧ i + st.at_ ≤ s2.at_ ∧ StM wr B gs AC nC cC s2 (ms ++ [m0]) (ks ++ m0 :: kx) T2 l2 (ms.length + 1) none Z ∧
    Only (fun b => b = m0.g ∨ Ft gs ms l b) w1 wr ∧ GrewL w1 l l2
/-- The reader goes on top. -/
theorem StM.push {w1 w9 : World} {B gs nC cC : Nat} {AC : Option Addr} {st : PS} {ms ks : List Gm} {TA : List (Option Addr × Nat)} {l l' : Sl7} {Z : Nat → Prop} {m0 : Gm} {bs : List UInt8} (h : StM w1 B gs AC nC cC st ms ks TA l ms.length none Z) (hr : ScR w9 B gs AC nC cC st.at_ (ms.map Gm.g ++ [m0.g]) (ks.map Gm.g ++ [m0.g]) st.told TA st.ret l')
    (hrd : RdsM w9 st ms ks ms.length none) (h0 : RdT w9 m0 bs 0 false 0) (hbl : bs.length ≤ 140737488351232) (hg0 : B ≤ m0.g) (hk : ∀ m ∈ ks, m.g ≠ m0.g) (hm : ∀ m ∈ ms, m.g ≠ m0.g) (hA0 : ∀ b o, m0.A = some ⟨b, o, none⟩ → ¬ Z b) :
    StM w9 B gs AC nC cC (st.push bs) (ms ++ [m0]) (ks ++ [m0]) TA l' (ms.length + 1) none Z := by
  have hrl := h.sc.rlen
  have key : ∀ (i : Nat) (m : Gm), (ms ++ [m0])[i]? = some m → (i < ms.length ∧ ms[i]? = some m) ∨ (i = ms.length ∧ m = m0) := fun i m hi => by
    by_cases h1 : i < ms.length
    · rw [List.getElem?_append_left h1] at hi; exact .inl ⟨h1, hi⟩
    · rw [List.getElem?_append_right (by omega)] at hi
      obtain h2 | h2 : i - ms.length = 0 ∨ 0 < i - ms.length := by omega
      · rw [h2] at hi; injection hi with hi; exact .inr ⟨by omega, hi.symm⟩
      · rw [List.getElem?_eq_none (by rw [List.length_singleton]; exact h2)] at hi; cases hi
  refine ⟨ScR.mk' (st := st.push bs) (by rw [List.map_append, List.map_append]; exact hr) (by show (ms ++ [m0]).length = (st.rs ++ [(bs, 0)]).length; rw [List.length_append, List.length_append, hrl]; rfl) (by show (ks ++ [m0]).length = st.many + 1; rw [List.length_append, h.sc.many]; rfl) (fun i j m n hi hj hij e => ?_) (fun m hm2 => ?_),
    ⟨fun i m r h1 h2 h3 _ => ?_, fun y m r e => (by cases e), fun n hn => ?_⟩, fun i m h1 h2 => ?_, fun y e => (by cases e), fun m hm2 n hn e => ?_, h.avt, fun m hm2 => ?_⟩
  · rcases key i m hi with ⟨h1, h2⟩ | ⟨h1, rfl⟩
    · rcases key j n hj with ⟨h3, h4⟩ | ⟨h3, rfl⟩
      · exact h.sc.sole i j m n h2 h4 hij e
      · exact hm m (List.mem_of_getElem? h2) e
    · rcases key j n hj with ⟨h3, h4⟩ | ⟨h3, rfl⟩
      · exact hm n (List.mem_of_getElem? h4) e.symm
      · omega
  · rcases List.mem_append.1 hm2 with h1 | h1
    · exact h.sc.base m h1
    · rw [List.mem_singleton.1 h1]; exact hg0
  · change (st.rs ++ [(bs, 0)])[i]? = some r at h3
    rcases key i m h2 with ⟨h4, h5⟩ | ⟨h4, rfl⟩
    · rw [List.getElem?_append_left (by omega)] at h3
      exact hrd.good i m r h4 h5 h3 (fun y e => by cases e)
    · rw [List.getElem?_append_right (by omega), show i - st.rs.length = 0 by omega] at h3
      injection h3 with h3
      subst h3
      exact ⟨h0, hbl⟩
  · rcases List.mem_append.1 hn with h1 | h1
    · rcases hrd.over n h1 with ⟨i, h2, h3⟩ | h2
      · exact .inl ⟨i, by omega, by rw [List.getElem?_append_left h2]; exact h3⟩
      · exact .inr h2
    · rw [List.mem_singleton.1 h1]
      exact .inl ⟨ms.length, Nat.lt_succ_self _, by rw [List.getElem?_append_right (Nat.le_refl _), Nat.sub_self]; rfl⟩
  · rcases key i m h2 with ⟨h4, h5⟩ | ⟨h4, rfl⟩
    · exact List.mem_append_left _ (h.sub i m h4 h5)
    · exact List.mem_append_right _ (List.mem_cons_self ..)
  · rcases List.mem_append.1 hm2 with h1 | h1
    · rcases List.mem_append.1 hn with h2 | h2
      · exact h.one m h1 n h2 e
      · rw [List.mem_singleton.1 h2] at e; exact absurd e (hk m h1)
    · rcases List.mem_append.1 hn with h2 | h2
      · rw [List.mem_singleton.1 h1] at e; exact absurd e.symm (hk n h2)
      · rw [List.mem_singleton.1 h1, List.mem_singleton.1 h2]
  · rcases List.mem_append.1 hm2 with h1 | h1
    · exact h.avr m h1
    · rw [List.mem_singleton.1 h1]; exact hA0
theorem own_le {w : World} {B n c sz : Nat} {e : TypeId} {A : Option Addr} {vs : List Value} (h : Own w B e sz A n c vs) : n ≤ c := by
  rcases h.2 with ⟨hv, h0⟩ | ⟨g', cap, cur, hv, hg, hh, hnc, hcm, hcs, htake⟩
  · omega
  · injection hv with h1 h2 h3
    omega
theorem run_cutP (w : World) (g n c m : Nat) (hm : m ≤ c) : (Instr.slice 55 (.slice (some ⟨g, 0, none⟩) n c) none (some (.int .i64 (m : Int))) none).run Try.prog w = .ok (.slice (some ⟨g, 0, none⟩) m c) w := by
  have hs : Try.prog.underlying 55 = some (.slice (Try.prog.elem 55)) := by kernel_rfl
  have hz : (sizeOf (Try.prog.elem 55)).run Try.prog w = .ok 1 w := by kernel_rfl
  rw [run_slice_h w _ _ _ _ hs _ _ (by omega) (by omega), hz, Result.andThen_ok]
  unfold sliced
  rw [Int.toNat_natCast]
  simp [Addr.add]
theorem Bnd.next {s : PS} (h : Bnd s) (h4 : s.at_ < 400) : Bnd s.next := by
  obtain ⟨c1, c2, c3, c4⟩ := h
  exact ⟨Nat.le_succ_of_le c1, Nat.le_succ_of_le c2, Nat.le_succ_of_le c3, h4⟩
theorem Bnd.tell {s : PS} (h : Bnd s) (h4 : s.at_ < 400) (j a : Nat) (g : PGot) : Bnd (s.next.tell j a g) := by
  obtain ⟨c1, c2, c3, c4⟩ := h
  refine ⟨?_, ?_, Nat.le_succ_of_le c3, h4⟩
  · show (s.told ++ [g]).length ≤ s.at_ + 1
    rw [List.length_append, List.length_singleton]; omega
  · show s.ret.length + (s.rs.set j _).length ≤ s.at_ + 1 + 1
    rw [List.length_set]; omega
section
variable {L : List PCall} {N : Int} {B gs nC cC i : Nat} {AC : Option Addr} {st s2 s3 : PS} {ms ks kx kx' xs : List Gm} {l l2 l3 : Sl7} {Z : Nat → Prop} {m0 : Gm} {bs : List UInt8} {w1 v0 w' : World} {T3 : List (Option Addr × Nat)}
/-- The loop goes on. -/
theorem RunR.on (hru : ∀ o, Runs L s2 (N - (i : Int)) o → Runs L (st.push bs) N o) (hi : i + st.at_ ≤ s2.at_) (hO : Only (fun b => b = m0.g ∨ Ft gs ms l b) w1 v0) (hG : GrewL w1 l l2)
    (h1 : ∀ o, Runs L s3 (N - (i : Int) - 1) o → Runs L s2 (N - (i : Int)) o) (hb : Bnd s3) (ha : s2.at_ + 1 ≤ s3.at_) (hs : StM w' B gs AC nC cC s3 (ms ++ [m0]) (ks ++ m0 :: kx ++ kx') T3 l3 (ms.length + 1) none Z) (ho : Only (Ft gs (ms ++ [m0]) l2) v0 w') (hg : GrewL v0 l2 l3) :
    RunR L N B gs AC nC cC st ms ks l Z m0 bs w1 (.int .i64 ((i : Int) + 1)) w' :=
  ⟨i + 1, s3, kx ++ kx', T3, l3, rfl, fun o hr => hru o (h1 o (by rw [show N - ((i + 1 : Nat) : Int) = N - (i : Int) - 1 by omega] at hr; exact hr)), hb, by omega, by rw [List.append_assoc] at hs; exact hs, hO.more ho (fun b hb e => e.back0 hG hb), hG.trans hg hO.size⟩
/-- A reader has met a fault. -/
theorem RunR.fall {j : Nat} {f : Int} {e : Ending} (hru : ∀ o, Runs L s2 (N - (i : Int)) o → Runs L (st.push bs) N o) (hO : Only (fun b => b = m0.g ∨ Ft gs ms l b) w1 v0) (hG : GrewL w1 l l2)
    (hr : Runs L s2 (N - (i : Int)) (.thrown j f s3)) (hb : Bnd s3) (hf : f ≠ 0) (hj : j < ms.length + 1) (hs : StM w' B gs AC nC cC s3 (ms ++ [m0] ++ xs) (ks ++ m0 :: kx ++ kx') T3 l3 (ms.length + 1) (some (j, f)) Z) (hm : ∃ m, (ms ++ [m0])[j]? = some m ∧ Threw (endedE m.g).v e) (ho : Only (Ft gs (ms ++ [m0]) l2) v0 w') (hg : GrewL v0 l2 l3) (hx : ∀ m ∈ xs, v0.heap.size ≤ m.g) :
    RunPost L N B gs AC nC cC st ms ks l Z m0 bs w1 e w' := by
  obtain ⟨m, hm1, hm2⟩ := hm
  refine ⟨.thrown j f s3, xs, kx ++ kx', T3, l3, hru _ hr, hO.more ho (fun b hb e => e.back0 hG hb), hG.trans hg hO.size, fun m hm => Nat.le_trans hO.size (hx m hm), hb, by omega, hf, ?_, m, ?_, hm2⟩
  · rw [List.append_assoc, List.append_assoc] at hs; exact hs
  · rw [show ms ++ m0 :: xs = (ms ++ [m0]) ++ xs by rw [List.append_assoc]; rfl, List.getElem?_append_left (by rw [List.length_append]; exact hj)]
    exact hm1
end
set_option maxRecDepth 100000 in
set_option maxHeartbeats 20000000 in
theorem run_step {L : List PCall} {B gs nC cC m : Nat} {AC : Option Addr} (hnC : nC = L.length) (ih : ∀ m', m' < m → RunC L B gs AC nC cC m') : RunC L B gs AC nC cC m := by
  intro st ms ks TA l Z gf N m0 bs w1 hleft hC hB h b1 b2 b3 b4 hF hR0 hbl hg0 hk hm hA0 hZ hd
  obtain ⟨w2, hw2⟩ : ∃ w', w' = w1.alloc (.cells #[pv m0.g] 49) := ⟨_, rfl⟩
  have hb12 : Below w1.heap.size w1 w2 := by rw [hw2]; exact (Below.refl _ _).alloc (Nat.le_refl _) _
  have hU2 : Blk w2 w1.heap.size 49 #[pv m0.g] := by rw [hw2]; exact Blk.new _ _ _
  have hS2 := h.sc.raw.below hb12
  have f0 : w1.cell? ⟨gf, 0, none⟩ = some (pv gs) := hF.cell 0
  have fl := hF.lt
  have r1 : w1.cell? ⟨gs, 2, none⟩ = some (.slice l.AR ms.length l.cR) := h.sc.blk.cell 2
  have r1l := h.sc.blk.lt
  have HS2 := Lib.hid hS2
  have HU2 := Lib.hid hU2
  have Hw2 := Lib.hid hw2
  have Hb12 := Lib.hid hb12
  have H := Lib.hid h
  have HC := Lib.hid hC
  have HF := Lib.hid hF
  have HR0 := Lib.hid hR0
  have Hk := Lib.hid hk
  have Hm := Lib.hid hm
  have HA0 := Lib.hid hA0
  have HZ := Lib.hid hZ
  have Hih := Lib.hid ih
  have HnC := Lib.hid hnC
  have hB2 : B ≤ w2.heap.size := by have := hb12.size; omega
  have hrow2 : Own w2 B 49 1 l.AR ms.length l.cR ((ms.map Gm.g).map pv) := by have h1 := hS2.rows; rw [List.length_map] at h1; exact h1
  have Hrow2 := Lib.hid hrow2
  clear hw2 hb12 hU2 hS2 h hC hF hR0 hk hm hA0 hZ ih hnC hrow2
  go_enter Try.func36, Try.ntmps36
  go_wp2_with (refine wpList_at 19 rfl ?_; refine wp_stop ?_)
  try refine ⟨?_⟩
  rw [← Hw2.out]
  clear Hw2
  refine wpList_app rfl (.tmp 16) (.tmp 18) ePtr rfl rfl Hrow2.out (m := 1) (c' := 1) (us := [pv m0.g]) rfl (RV.of_blk HU2.out) rfl (by intro v hv; simp only [List.mem_cons, List.not_mem_nil, or_false] at hv; subst hv; rfl) (by unfold maxLen; omega) (by omega) hB2 (by intro h; cases h) ?_
  intro A3 c3 w3 ho3 hg3 hA3
  obtain ⟨hS4, hO24⟩ := HS2.out.pushR m0.g (by rw [List.length_map]; exact ho3) hg3 hA3
  rw [List.length_map] at hS4 hO24
  have hO3 : Only (fun b => l.AR.map (·.block) = some b) w2 w3 := Only.of_grown hg3 fun k e => e
  have hblk3 := HS2.out.blk.only hO3 (fun e => own_blk_ne2 HS2.out.rows HS2.out.blk (by decide) e)
  have s3 : w3.cell? ⟨gs, 2, none⟩ = some (.slice l.AR ms.length l.cR) := by have h1 := hblk3.cell 2; rw [h1, List.length_map]; rfl
  have s3f := hblk3.frozen 2
  have s3l := hblk3.lt
  obtain ⟨w4, hw4⟩ : ∃ w', w' = w3.setCell ⟨gs, 2, none⟩ (.slice A3 (ms.length + 1) c3) := ⟨_, rfl⟩
  rw [← hw4] at hS4 hO24
  have hn2 : ∀ b ty, BlkT w2 b ty → ty ≠ 59 → ty ≠ 49 → ¬ (b = gs ∨ l.AR.map (·.block) = some b) := fun b ty hb n1 n2 e => by
    rcases e with e | e
    · rw [e] at hb; exact n1 (blkT_eq hb HS2.out.blk.ty)
    · obtain ⟨h3, -, -⟩ := ownG_form HS2.out.rows b e
      obtain ⟨cs, h4⟩ := own_ty HS2.out.rows h3
      exact n2 (blkT_eq hb h4.ty)
  have hRd4 := (H.out.rd.below Hb12.out).only hO24 (fun b cs hb => hn2 b _ hb.ty (by decide) (by decide)) (fun b hb => hn2 b _ hb (by decide) (by decide))
  have hR04 := (HR0.out.below Hb12.out).only hO24 (hn2 _ _ (HR0.out.below Hb12.out).rd.blk.ty (by decide) (by decide)) (fun b hb => hn2 b _ hb (by decide) (by decide))
  have hF4 := (HF.out.below Hb12.out HF.out.lt).only hO24 (hn2 _ _ (HF.out.below Hb12.out HF.out.lt).ty (by decide) (by decide))
  have hgA3 : Grew w1 l.AR A3 := fun b e => by
    rcases hA3 with h | h
    · rw [h] at e; exact .inl e
    · rw [h] at e; injection e with e; have := Hb12.out.size; exact .inr (by omega)
  have hO14 : Only (fun b => b = gs ∨ l.AR.map (·.block) = some b) w1 w4 := (Only.of_fresh Hb12.out).trans hO24
  obtain ⟨w5, hw5⟩ : ∃ w', w' = w4.alloc (.cells #[pv m0.g] 49) := ⟨_, rfl⟩
  have hb45 : Below w4.heap.size w4 w5 := by rw [hw5]; exact (Below.refl _ _).alloc (Nat.le_refl _) _
  have hU5 : Blk w5 w4.heap.size 49 #[pv m0.g] := by rw [hw5]; exact Blk.new _ _ _
  have hz14 := hO14.size
  have k4 : w4.cell? ⟨gs, 3, none⟩ = some (.slice l.AK ks.length l.cK) := by have h1 := hS4.blk.cell 3; rw [h1, List.length_map]; rfl
  have k4l := hS4.blk.lt
  have hS5 := hS4.below hb45
  have hrow5 : Own w5 B 49 1 l.AK ks.length l.cK ((ks.map Gm.g).map pv) := by have h1 := hS5.kept; rw [List.length_map] at h1; exact h1
  have HS5 := Lib.hid hS5
  have HU5 := Lib.hid hU5
  have Hw4 := Lib.hid hw4
  have Hw5 := Lib.hid hw5
  have Hrow5 := Lib.hid hrow5
  have HRd5 := Lib.hid (hRd4.below hb45)
  have HR05 := Lib.hid (hR04.below hb45)
  have HF5 := Lib.hid (hF4.below hb45 hF4.lt)
  have HgA3 := Lib.hid hgA3
  have HO15 := Lib.hid (hO14.trans (Only.of_fresh hb45))
  have hB5 : B ≤ w5.heap.size := by have := hb45.size; omega
  have hkl : ks.length ≤ 400 := by rw [H.out.sc.many]; omega
  clear ho3 hg3 hA3 hS4 hO24 hO3 hblk3 hn2 hRd4 hR04 hF4 hgA3 hO14 hw4 hw5 hb45 hU5 hS5 hrow5 f0 fl r1 r1l hz14 HU2 Hrow2 HS2
  go_upto_region 2 with (fail)
  rw [← Hw4.out]
  clear Hw4 s3 s3f s3l
  go_wp2_with (refine wpList_at 29 rfl ?_; refine wp_stop ?_)
  try refine ⟨?_⟩
  rw [← Hw5.out]
  clear Hw5
  refine wpList_app rfl (.tmp 26) (.tmp 28) ePtr rfl rfl Hrow5.out (m := 1) (c' := 1) (us := [pv m0.g]) rfl (RV.of_blk HU5.out) rfl (by intro v hv; simp only [List.mem_cons, List.not_mem_nil, or_false] at hv; subst hv; rfl) (by unfold maxLen; omega) (by omega) hB5 (by intro h; cases h) ?_
  intro A6 c6 w6 ho6 hg6 hA6
  obtain ⟨hS7, hO57⟩ := HS5.out.pushK m0.g (by rw [List.length_map]; exact ho6) hg6 hA6
  rw [List.length_map] at hS7 hO57
  have hO6 : Only (fun b => l.AK.map (·.block) = some b) w5 w6 := Only.of_grown hg6 fun k e => e
  have hblk6 := HS5.out.blk.only hO6 (fun e => own_blk_ne2 HS5.out.kept HS5.out.blk (by decide) e)
  have s6 : w6.cell? ⟨gs, 3, none⟩ = some (.slice l.AK ks.length l.cK) := by have h1 := hblk6.cell 3; rw [h1, List.length_map]; rfl
  have s6f := hblk6.frozen 3
  have s6l := hblk6.lt
  obtain ⟨w7, hw7⟩ : ∃ w', w' = w6.setCell ⟨gs, 3, none⟩ (.slice A6 (ks.length + 1) c6) := ⟨_, rfl⟩
  rw [← hw7] at hS7 hO57
  have hn5 : ∀ b ty, BlkT w5 b ty → ty ≠ 59 → ty ≠ 49 → ¬ (b = gs ∨ l.AK.map (·.block) = some b) := fun b ty hb n1 n2 e => by
    rcases e with e | e
    · rw [e] at hb; exact n1 (blkT_eq hb HS5.out.blk.ty)
    · obtain ⟨h3, -, -⟩ := ownG_form HS5.out.kept b e
      obtain ⟨cs, h4⟩ := own_ty HS5.out.kept h3
      exact n2 (blkT_eq hb h4.ty)
  have hRd7 := HRd5.out.only hO57 (fun b cs hb => hn5 b _ hb.ty (by decide) (by decide)) (fun b hb => hn5 b _ hb (by decide) (by decide))
  have hR07 := HR05.out.only hO57 (hn5 _ _ HR05.out.rd.blk.ty (by decide) (by decide)) (fun b hb => hn5 b _ hb (by decide) (by decide))
  have hF7 := HF5.out.only hO57 (hn5 _ _ HF5.out.ty (by decide) (by decide))
  have hSt7 := H.out.push hS7 hRd7 hR07 hbl hg0 Hk.out Hm.out HA0.out
  have hz15 := HO15.out.size
  have hgA6 : Grew w1 l.AK A6 := fun b e => by
    rcases hA6 with h | h
    · rw [h] at e; exact .inl e
    · rw [h] at e; injection e with e; exact .inr (by omega)
  have hGL : GrewL w1 l ⟨A3, c3, A6, c6, l.AT, l.cT, l.AE, l.cE⟩ := ⟨HgA3.out, hgA6, .refl _ _, .refl _ _⟩
  have hO17 : Only (fun b => b = m0.g ∨ Ft gs ms l b) w1 w7 := (HO15.out.mono fun b _ e => .inr (ft_raw e)).trans (hO57.mono fun b _ e => .inr (e.elim .inl fun e => .inr (.inr (.inl e))))
  have hbp : Bnd (st.push bs) := ⟨b1, by show st.ret.length + (st.rs ++ [(bs, 0)]).length ≤ st.at_ + 1; rw [List.length_append, ← H.out.sc.rlen, List.length_singleton]; omega, by show st.many + 1 ≤ st.at_ + 1; omega, b4⟩
  have HR7 := Lib.hid (show RunR L N B gs AC nC cC st ms ks l Z m0 bs w1 (.int .i64 0) w7 from ⟨0, st.push bs, [], TA, ⟨A3, c3, A6, c6, l.AT, l.cT, l.AE, l.cE⟩, rfl, fun o h => by simpa using h, hbp, by show 0 + st.at_ ≤ st.at_; omega, hSt7, hO17, hGL⟩)
  have k7 : w7.cell? ⟨gs, 2, none⟩ = some (.slice A3 (ms.length + 1) c3) := by have h1 := hSt7.sc.blk.cell 2; rw [h1]; show some (Value.slice A3 (ms ++ [m0]).length c3) = _; rw [List.length_append]; rfl
  have k7l := hSt7.sc.blk.lt
  have Hw7 := Lib.hid hw7
  have HF7 := Lib.hid hF7
  have HO17 := Lib.hid hO17
  clear ho6 hg6 hA6 hS7 hO57 hO6 hblk6 hn5 hRd7 hR07 hF7 hSt7 hz15 hgA6 hGL hO17 hbp hw7 k4 k4l HU5 Hrow5 HS5 HRd5 HR05 HF5 HgA3 HO15
  go_upto_region 3 with (fail)
  rw [← Hw7.out]
  clear Hw7 s6 s6f s6l
  go_wp2_with fail
  clear k7 k7l
  go_loopw [6] (fun vi wr => RunR L N B gs AC nC cC st ms ks l Z m0 bs w1 vi wr) (fun vi _ => 401 - (intOf vi).toNat)
  case atStart => exact HR7.out
  case round =>
    rename World => v0
    obtain ⟨i, s2, kx, T2, l2, rfl, hru, hbd, hi, hSt, hO, hG⟩ := hrel.out
    clear hrel HR7
    have hML : (ms ++ [m0]).length = ms.length + 1 := by rw [List.length_append]; rfl
    obtain ⟨M, hM⟩ : ∃ M, M = ms ++ [m0] := ⟨_, rfl⟩
    obtain ⟨K2, hK2⟩ : ∃ K, K = ks ++ m0 :: kx := ⟨_, rfl⟩
    rw [← hM] at hML hSt
    rw [← hK2, ← hML] at hSt
    have hz1 := hO.size
    have hnf : ¬ (gf = m0.g ∨ Ft gs ms l gf) := fun e => by
      rcases e with e | e
      · have h1 := HF.out.ty
        rw [e] at h1
        exact absurd (blkT_eq h1 HR0.out.rd.blk.ty) (by decide)
      · exact H.out.ftne HF.out.ty (by decide) (by decide) (by decide) (by decide) (by decide) e
    have hFv := HF.out.only hO hnf
    have hCv := HC.out.only hO (fun b hb => by
      rcases hb with hb | hb
      · rw [hb]; exact hg0
      · exact H.out.ft hb)
    have hstop : (N ≤ (i : Int) ∨ nC ≤ s2.at_ ∨ 400 ≤ s2.at_) → RunPost L N B gs AC nC cC st ms ks l Z m0 bs w1 (.returned (.tuple #[])) v0 := fun hs =>
      ⟨.ok s2, [], kx, T2, l2, hru _ (.stop (by rw [← HnC.out]; rcases hs with hs | hs | hs <;> omega)), hO, hG, (fun m hm => by cases hm), hbd, rfl, rfl, by rw [← hM, ← hK2, ← hML]; exact hSt⟩
    have hdr : ∀ {n : Nat} {e : Ending}, RunPost L N B gs AC nC cC st ms ks l Z m0 bs w1 e v0 → RunPost L N B gs AC nC cC st ms ks l Z m0 bs w1 e (v0.drewN n) := fun {n e} hp => by
      obtain ⟨out, xs, kx, T2, l2, h1, h2, h3, h4, h5⟩ := hp
      refine ⟨out, xs, kx, T2, l2, h1, h2.trans (Only.of_fresh (below_drewN (Below.refl _ _) _)), h3, h4, ?_⟩
      cases out with
      | ok s3 => exact ⟨h5.1, h5.2.1, h5.2.2.1, h5.2.2.2.below (below_drewN (Below.refl _ _) _)⟩
      | thrown j f s3 => exact ⟨h5.1, h5.2.1, h5.2.2.1, h5.2.2.2.1.below (below_drewN (Below.refl _ _) _), h5.2.2.2.2⟩
    have f1 : v0.cell? ⟨gf, 1, none⟩ = some (.int .i64 N) := hFv.cell 1
    have fl := hFv.lt
    have c0 : v0.cell? ⟨gs, 0, none⟩ = some (.slice AC nC cC) := hSt.sc.blk.cell 0
    have c1 : v0.cell? ⟨gs, 1, none⟩ = some (.int .i64 (s2.at_ : Int)) := hSt.sc.blk.cell 1
    have cl := hSt.sc.blk.lt
    have HSt := Lib.hid hSt
    have HO := Lib.hid hO
    have HG := Lib.hid hG
    have Hru := Lib.hid hru
    have Hbd := Lib.hid hbd
    have HM := Lib.hid hM
    have HK2 := Lib.hid hK2
    have HML := Lib.hid hML
    have HCv := Lib.hid hCv
    have Hstop := Lib.hid hstop
    have Hdr := Lib.hid (show ∀ (n : Nat) (e : Ending), RunPost L N B gs AC nC cC st ms ks l Z m0 bs w1 e v0 → RunPost L N B gs AC nC cC st ms ks l Z m0 bs w1 e (v0.drewN n) from fun n e => hdr)
    have Hz1 := Lib.hid hz1
    clear hSt hO hG hru hbd hM hK2 hML hCv hnf hFv hstop hdr hz1
    by_cases hiN : (i : Int) < N
    rotate_left
    · have hd : decide ((i : Int) < N) = false := by simpa using hiN
      have Hp := Lib.hid (Hstop.out (.inl (by omega)))
      clear hiN
      go_wp2_with fail
      go_quiet (fail)
      go_wp2_with fail
      go_end0
      exact Hdr.out _ _ Hp.out
    by_cases hat : (s2.at_ : Int) < (nC : Int)
    rotate_left
    · have hd : decide ((s2.at_ : Int) < (nC : Int)) = false := by simpa using hat
      have hd2 : decide (s2.at_ < nC) = false := by simpa using hat
      have Hp := Lib.hid (Hstop.out (.inr (.inl (by omega))))
      clear hat
      go_wp2_with fail
      go_quiet (fail)
      go_wp2_with fail
      go_end0
      exact Hdr.out _ _ Hp.out
    by_cases h4 : (s2.at_ : Int) < 400
    rotate_left
    · have hd : decide ((s2.at_ : Int) < 400) = false := by simp; omega
      have hd2 : decide (s2.at_ < 400) = false := by simp; omega
      have Hp := Lib.hid (Hstop.out (.inr (.inr (by omega))))
      clear h4
      go_wp2_with fail
      go_quiet (fail)
      go_wp2_with fail
      go_end0
      exact Hdr.out _ _ Hp.out
    go_wp2_with fail
    go_quiet (fail)
    rename Nat => nq
    obtain ⟨v1, hv1⟩ : ∃ w', w' = v0.drewN nq := ⟨_, rfl⟩
    rw [← hv1]
    go_wp2_with fail
    have hb01 : Below v0.heap.size v0 v1 := by rw [hv1]; exact below_drewN (Below.refl _ _) _
    have hSt1 := HSt.out.below hb01
    obtain ⟨TC, ht1, ht2, ht3, ht4⟩ := (HCv.out.only (Only.of_fresh (S := fun _ => False) hb01) (fun _ h => h.elim)).out
    have hatN : s2.at_ < L.length := by rw [← HnC.out]; omega
    obtain ⟨c, hc⟩ : ∃ c, L[s2.at_]? = some c := ⟨_, List.getElem?_eq_getElem hatN⟩
    obtain ⟨t, ht⟩ : ∃ t, TC[s2.at_]? = some t := ⟨_, List.getElem?_eq_getElem (by rw [ht1]; exact hatN)⟩
    obtain ⟨bC, oC, rfl, hbC, hcC⟩ := ht2.at_ (by rw [callCells_len, List.length_zip, ht1, Nat.min_self]; omega)
    obtain ⟨q0, q1, q2, q3⟩ := call_cells hcC s2.at_ hc ht
    obtain ⟨hcs, hcl, hcB⟩ := ht4 _ _ _ hc ht
    obtain ⟨tA, tc⟩ := t
    dsimp only at q0 q1 q2 q3 hcs hcB
    have s0 : v1.cell? ⟨gs, 0, none⟩ = some (.slice (some ⟨bC, oC, none⟩) nC cC) := hSt1.sc.blk.cell 0
    have s1 : v1.cell? ⟨gs, 1, none⟩ = some (.int .i64 (s2.at_ : Int)) := hSt1.sc.blk.cell 1
    have sl := hSt1.sc.blk.lt
    have HSt1 := Lib.hid hSt1
    have Hb01 := Lib.hid hb01
    have Hcs := Lib.hid hcs
    have HcB := Lib.hid hcB
    have Hc := Lib.hid hc
    have HbC := Lib.hid (show bC < B from ht3 (by omega) bC oC rfl)
    clear hv1 f1 fl c0 c1 cl hb01 hSt1 ht1 ht2 ht3 ht4 hc ht hcC hcs hcB
    obtain ⟨SC, hSCd⟩ : ∃ S : World → Prop, S = fun w' => (w'.cell? ⟨gs, 0, none⟩ = some (.slice (some ⟨bC, oC, none⟩) nC cC) ∧ w'.cell? ⟨gs, 1, none⟩ = some (.int .i64 (s2.at_ : Int)) ∧ gs < w'.heap.size) ∧ (w'.cell? ⟨bC, oC + s2.at_ * 4, none⟩ = some (.int .i64 c.kind) ∧ w'.cell? ⟨bC, oC + s2.at_ * 4 + 1, none⟩ = some (.int .i64 c.n) ∧ w'.cell? ⟨bC, oC + s2.at_ * 4 + 2, none⟩ = some (.int .i64 c.out) ∧ w'.cell? ⟨bC, oC + s2.at_ * 4 + 3, none⟩ = some (.slice tA c.b.length tc) ∧ bC < w'.heap.size) := ⟨_, rfl⟩
    have hSC : SC v1.drew := by rw [hSCd]; exact ⟨⟨s0, s1, sl⟩, ⟨q0, q1, q2, q3, hbC⟩⟩
    have HSC := Lib.hid (show SC v1.drew from hSC)
    have HSd := Lib.hid hSCd
    clear hSC hSCd
    refine region_heldT 12 SC (by kernel_rfl) (by decide) ?_
    refine HeadW.takeA 0 (v := .pointer (some ⟨gs, 0, none⟩)) rfl (by kernel_rfl) rfl (by decide) (fun _ _ _ hL => seqB_ready hL.1) (by kernel_rfl) (by kernel_rfl) (fun _ _ _ h => h) HSC.out (.inl ⟨by kernel_rfl, by intro w hSw; rw [HSd.out] at hSw; obtain ⟨⟨e0, e1, l0⟩, ⟨e2, e3, e4, e5, l1⟩⟩ := hSw; go_simp⟩) ?_
    simp only [Act.put, List.setIfInBounds_toArray]
    refine HeadW.takeA 1 (v := .pointer (some ⟨gs, 0, none⟩)) rfl (by kernel_rfl) rfl (by decide) (fun _ _ _ hL => seqB_ready hL.1) (by kernel_rfl) (by kernel_rfl) (fun _ _ _ h => h) HSC.out (.inl ⟨by kernel_rfl, by intro w hSw; rw [HSd.out] at hSw; obtain ⟨⟨e0, e1, l0⟩, ⟨e2, e3, e4, e5, l1⟩⟩ := hSw; go_simp⟩) ?_
    simp only [Act.put]
    refine HeadW.takeA 2 (v := .pointer (some ⟨gs, 0, none⟩)) rfl (by kernel_rfl) rfl (by decide) (fun _ _ _ hL => seqB_ready hL.1) (by kernel_rfl) (by kernel_rfl) (fun _ _ _ h => h) HSC.out (.inl ⟨by kernel_rfl, by intro w hSw; rw [HSd.out] at hSw; obtain ⟨⟨e0, e1, l0⟩, ⟨e2, e3, e4, e5, l1⟩⟩ := hSw; go_simp⟩) ?_
    simp only [Act.put]
    refine HeadW.takeA 3 (v := .slice (some ⟨bC, oC, none⟩) nC cC) rfl (by kernel_rfl) rfl (by decide) (fun _ _ _ hL => seqB_ready hL.1) (by kernel_rfl) (by kernel_rfl) (fun _ _ _ h => h) HSC.out (.inl ⟨by kernel_rfl, by intro w hSw; rw [HSd.out] at hSw; obtain ⟨⟨e0, e1, l0⟩, ⟨e2, e3, e4, e5, l1⟩⟩ := hSw; go_simp⟩) ?_
    simp only [Act.put]
    refine HeadW.takeA 4 (v := .pointer (some ⟨gs, 0, none⟩)) rfl (by kernel_rfl) rfl (by decide) (fun _ _ _ hL => seqB_ready hL.1) (by kernel_rfl) (by kernel_rfl) (fun _ _ _ h => h) HSC.out (.inl ⟨by kernel_rfl, by intro w hSw; rw [HSd.out] at hSw; obtain ⟨⟨e0, e1, l0⟩, ⟨e2, e3, e4, e5, l1⟩⟩ := hSw; go_simp⟩) ?_
    simp only [Act.put]
    refine HeadW.takeA 5 (v := .pointer (some ⟨gs, 0, none⟩)) rfl (by kernel_rfl) rfl (by decide) (fun _ _ _ hL => seqB_ready hL.1) (by kernel_rfl) (by kernel_rfl) (fun _ _ _ h => h) HSC.out (.inl ⟨by kernel_rfl, by intro w hSw; rw [HSd.out] at hSw; obtain ⟨⟨e0, e1, l0⟩, ⟨e2, e3, e4, e5, l1⟩⟩ := hSw; go_simp⟩) ?_
    simp only [Act.put]
    refine HeadW.takeA 6 (v := .pointer (some ⟨gs, 1, none⟩)) rfl (by kernel_rfl) rfl (by decide) (fun _ _ _ hL => seqB_ready hL.1) (by kernel_rfl) (by kernel_rfl) (fun _ _ _ h => h) HSC.out (.inl ⟨by kernel_rfl, by intro w hSw; rw [HSd.out] at hSw; obtain ⟨⟨e0, e1, l0⟩, ⟨e2, e3, e4, e5, l1⟩⟩ := hSw; go_simp⟩) ?_
    simp only [Act.put]
    refine HeadW.takeA 7 (v := .int .i64 (s2.at_ : Int)) rfl (by kernel_rfl) rfl (by decide) (fun _ _ _ hL => seqB_ready hL.1) (by kernel_rfl) (by kernel_rfl) (fun _ _ _ h => h) HSC.out (.inl ⟨by kernel_rfl, by intro w hSw; rw [HSd.out] at hSw; obtain ⟨⟨e0, e1, l0⟩, ⟨e2, e3, e4, e5, l1⟩⟩ := hSw; go_simp⟩) ?_
    simp only [Act.put]
    refine HeadW.takeA 8 (v := .pointer (some ⟨bC, oC + s2.at_ * 4, none⟩)) rfl (by kernel_rfl) rfl (by decide) (fun _ _ _ hL => seqB_ready hL.1) (by kernel_rfl) (by kernel_rfl) (fun _ _ _ h => h) HSC.out (.inl ⟨by kernel_rfl, by intro w hSw; rw [HSd.out] at hSw; obtain ⟨⟨e0, e1, l0⟩, ⟨e2, e3, e4, e5, l1⟩⟩ := hSw; go_simp⟩) ?_
    simp only [Act.put]
    refine HeadW.takeA 9 (v := .agg #[.int .i64 c.kind, .int .i64 c.n, .int .i64 c.out, .slice tA c.b.length tc]) rfl (by kernel_rfl) rfl (by decide) (fun _ _ _ hL => seqB_ready hL.1) (by kernel_rfl) (by kernel_rfl) (fun _ _ _ h => h) HSC.out (.inl ⟨by kernel_rfl, by intro w hSw; rw [HSd.out] at hSw; obtain ⟨⟨e0, e1, l0⟩, ⟨e2, e3, e4, e5, l1⟩⟩ := hSw; go_simp⟩) ?_
    simp only [Act.put]
    clear s0 s1 q0 q1 q2 q3
    have hSCb : ∀ w', Below v1.heap.size v1 w' → SC w' := fun w' hb => by
      have h := HSC.out
      rw [HSd.out] at h ⊢
      obtain ⟨⟨e0, e1, l0⟩, ⟨e2, e3, e4, e5, l1⟩⟩ := h
      obtain ⟨hc, -⟩ := bcell hb
      have hz := hb.size
      exact ⟨⟨(hc _ _ l0).trans e0, (hc _ _ l0).trans e1, Nat.lt_of_lt_of_le l0 hz⟩, ⟨(hc _ _ l1).trans e2, (hc _ _ l1).trans e3, (hc _ _ l1).trans e4, (hc _ _ l1).trans e5, Nat.lt_of_lt_of_le l1 hz⟩⟩
    refine headW_one 10 rfl (by decide) (by kernel_rfl) (by kernel_rfl) fun K hK => ?_
    go_simp
    refine hK.out _ _ (hSCb _ (((Below.refl _ _).alloc (Nat.le_refl _) _).drew)) (fun hHeld => ?_)
    clear hK K hHeld
    refine headW_one 11 rfl (by decide) (by kernel_rfl) (by kernel_rfl) fun K hK => ?_
    go_simp
    refine hK.out _ _ (hSCb _ (((Below.refl _ _).alloc (Nat.le_refl _) _).drew)) (fun hHeld => ?_)
    clear hK K hHeld hSCb
    refine fun hInv => ⟨by kernel_rfl, ?_⟩
    clear hInv
    simp only [List.drop_succ_cons, List.drop_zero]
    clear HSC HSd
    clear SC
    obtain ⟨gb, hgb⟩ : ∃ g, g = v1.heap.size := ⟨_, rfl⟩
    obtain ⟨v2, hv2⟩ : ∃ w', w' = (v1.alloc (.cells #[.int .i64 c.kind, .int .i64 c.n, .int .i64 c.out, .slice tA c.b.length tc] 111)).drew := ⟨_, rfl⟩
    rw [← hv2, ← hgb]
    have hb12v : Below v1.heap.size v1 v2 := by rw [hv2]; exact ((Below.refl _ _).alloc (Nat.le_refl _) _).drew
    have hC2 : Blk v2 gb 111 #[.int .i64 c.kind, .int .i64 c.n, .int .i64 c.out, .slice tA c.b.length tc] := by rw [hv2, hgb]; exact Blk.new v1 _ _
    have hSt2 := HSt1.out.below hb12v
    have s1 : v2.cell? ⟨gs, 1, none⟩ = some (.int .i64 (s2.at_ : Int)) := hSt2.sc.blk.cell 1
    have s1f := hSt2.sc.blk.frozen 1
    have sl := hSt2.sc.blk.lt
    obtain ⟨hSt3, hO23⟩ := hSt2.next (.int .i64 ((s2.at_ : Int) + 1)) rfl
    obtain ⟨v3, hv3⟩ : ∃ w', w' = v2.setCell ⟨gs, 1, none⟩ (.int .i64 ((s2.at_ : Int) + 1)) := ⟨_, rfl⟩
    rw [← hv3] at hSt3 hO23
    have hC3 := hC2.only hO23 (fun e => by have := HSt1.out.sc.blk.lt; omega)
    have hO13 : Only (Ft gs M l2) v1 v3 := (Only.of_fresh hb12v).trans (hO23.mono fun b _ e => .inl e)
    have hO03 : Only (Ft gs M l2) v0 v3 := (Only.of_fresh Hb01.out).trans hO13
    have hrs : s2.rs.length = ms.length + 1 := by rw [← HSt.out.sc.rlen, HML.out]
    have hz03 := hO03.size
    have hz1 := Hz1.out
    have hBv3 : B ≤ v3.heap.size := by omega
    have HZ3 := Lib.hid (show ∀ b, Z b → b < v3.heap.size from fun b hb => by have := HZ.out b hb; omega)
    have Hs3 := Lib.hid (show Sl v3 ⟨tA, tc, c.b⟩ from Hcs.out.only hO13 (fun b o h0 e hb => by have := HcB.out h0 b o e; have := HSt.out.ft hb; omega))
    have HC3 := Lib.hid (HCv.out.only hO03 (fun b hb => HSt.out.ft hb))
    have HO03 := Lib.hid hO03
    have HSt3 := Lib.hid hSt3
    have Hv3 := Lib.hid hv3
    have Hrs := Lib.hid hrs
    have k0 : v3.cell? ⟨gb, 0, none⟩ = some (.int .i64 c.kind) := hC3.cell 0
    have k1 : v3.cell? ⟨gb, 1, none⟩ = some (.int .i64 c.n) := hC3.cell 1
    have k2 : v3.cell? ⟨gb, 2, none⟩ = some (.int .i64 c.out) := hC3.cell 2
    have k3 : v3.cell? ⟨gb, 3, none⟩ = some (.slice tA c.b.length tc) := hC3.cell 3
    have kl := hC3.lt
    have hwr : IntKind.i64.wrap ((s2.at_ : Int) + 1) = (s2.at_ : Int) + 1 := by rw [IntKind.wrap_i64]; omega
    have hwr6 : IntKind.i64.wrap ((i : Int) + 1) = (i : Int) + 1 := by rw [IntKind.wrap_i64]; omega
    have hMl : M.length = ms.length + 1 := HML.out
    clear hgb hv2 hb12v hC2 hSt2 hSt3 hO23 hv3 hC3 hO13 hO03 hrs hz1
    go_upto_region 9 with (fail)
    rw [← Hv3.out]
    clear Hv3 s1 s1f sl
    by_cases hk : c.kind = 10
    · as_aux_lemma =>
      by_cases hd20 : (ms.length : Int) + 1 < 20
      rotate_left
      ·
        have HRel := Lib.hid (RunR.on (kx' := []) Hru.out hi HO.out HG.out (fun o hr => .skip (by omega) (by omega) Hc.out hk (by rw [Hrs.out]; omega) hr) (Hbd.out.next (by omega)) (Nat.le_refl _) (by have h := HSt3.out; rw [HML.out, HK2.out, HM.out] at h; rw [List.append_nil]; exact h) (by have h := HO03.out; rw [HM.out] at h; exact h) (GrewL.refl _ _))
        go_wp2_with fail
        refine ⟨?_, ?measure⟩
        case measure => simp [intOf]; omega
        exact HRel.out
      ·
        have hm1 : m - 1 < m := by omega
        have hin := inner_any (Hih.out (m - 1) hm1) s2.next M K2 T2 l2 Z v3 c tA tc (by show min L.length 400 - (s2.at_ + 1) ≤ m - 1; omega) HC3.out hBv3 HSt3.out (Hbd.out.next (by omega)).1 (by show s2.ret.length + M.length ≤ s2.at_ + 1; have h1 := Hbd.out.2.1; have h2 := Hrs.out; omega) (by show s2.many ≤ s2.at_ + 1; exact Hbd.out.2.2.1) (by show s2.at_ + 1 ≤ 400; omega) Hs3.out hcl HcB.out HZ3.out (by omega)
        rw [hk] at hin
        have Hin := Lib.hid hin
        clear hin hm1 HC3 Hs3
        go_upto_region 11 with (fail)
        go_wp2_with fail
        refine Hin.out.mono ?_
        clear Hin
        rintro e v4 ⟨out, xs, kx', T3, l3, hR, hO4, hG4, hx4, hm⟩
        have hO04 := HO03.out.trans hO4
        have hGl : GrewL v0 l2 l3 := (GrewL.refl v0 l2).trans hG4 HO03.out.size
        have HR4 := Lib.hid hR
        have HO04 := Lib.hid hO04
        have HGl := Lib.hid hGl
        have Hx4 := Lib.hid (show ∀ m ∈ xs, v0.heap.size ≤ m.g from fun m hm => Nat.le_trans HO03.out.size (hx4 m hm))
        clear hO4 hG4 hx4 hR hO04 hGl
        cases out with
        | ok s3 =>
          obtain ⟨hbd3, rfl, hSt4⟩ := hm
          obtain ⟨g3, hg3, -, hg3l⟩ := ownG_some hSt4.sc.rows (by rw [List.length_append]; omega)
          obtain ⟨n3, hn3⟩ : ∃ n, n = (M ++ xs).length := ⟨_, rfl⟩
          have hc3 := own_le hSt4.sc.rows
          have hc3' : ms.length + 1 ≤ l3.cR := by rw [List.length_append] at hc3; omega
          have t2 : v4.cell? ⟨gs, 2, none⟩ = some (.slice (some ⟨g3, 0, none⟩) n3 l3.cR) := by rw [← hg3, hn3]; exact hSt4.sc.blk.cell 2
          have t2f := hSt4.sc.blk.frozen 2
          have t2l := hSt4.sc.blk.lt
          obtain ⟨hSt5, hO45⟩ := StM.cut hSt4
          rw [hg3, HML.out] at hSt5
          rw [hg3, HML.out] at hO45
          rw [HML.out] at hbd3
          have hcut : ∀ w', (Instr.slice 55 (.slice (some ⟨g3, 0, none⟩) n3 l3.cR) none (some (.int .i64 ((ms.length : Int) + 1))) none).run Try.prog w' = .ok (.slice (some ⟨g3, 0, none⟩) (ms.length + 1) l3.cR) w' := fun w' => by
            have h := run_cutP w' g3 n3 l3.cR (ms.length + 1) hc3'
            rw [show ((ms.length + 1 : Nat) : Int) = (ms.length : Int) + 1 from rfl] at h
            exact h
          have HRel := Lib.hid (RunR.on (kx' := kx') Hru.out hi HO.out HG.out (fun o hr => .inOk (by omega) (by omega) Hc.out hk (by rw [Hrs.out]; omega) HR4.out (by rw [Hrs.out]; exact hr)) hbd3 HR4.out.at_le (by have h := hSt5; rw [HK2.out, HM.out] at h; exact h) (by have h := HO04.out.trans (hO45.mono (T := Ft gs M l2) fun b _ e => .inl e); rw [HM.out] at h; exact h) HGl.out)
          clear hg3 hg3l hn3 hc3 hc3' hSt5 hO45 hSt4 hbd3 HR4 HO04 HGl Hx4
          go_wp2_with fail
          refine ⟨?_, ?measure⟩
          case measure => simp [intOf]; omega
          exact HRel.out
        | thrown j f s3 =>
          obtain ⟨hf, ⟨rfl, hbd3, rfl, hSt4⟩ | ⟨hj, hbd3, hSt4, mm, hmm, old, rfl, hold⟩⟩ := hm
          · have hR4 := HR4.out
            have HR4 := Lib.hid (show Runs L (s2.next.push c.b) c.n (.thrown s2.rs.length f s3) from by rw [Hrs.out, ← HML.out]; exact hR4)
            clear hR4
            obtain ⟨g3, hg3, -, hg3l⟩ := ownG_some hSt4.sc.rows (by rw [List.length_append]; omega)
            obtain ⟨n3, hn3⟩ : ∃ n, n = (M ++ xs).length := ⟨_, rfl⟩
            have hc3 := own_le hSt4.sc.rows
            have hc3' : ms.length + 1 ≤ l3.cR := by rw [List.length_append] at hc3; omega
            have t2 : v4.cell? ⟨gs, 2, none⟩ = some (.slice (some ⟨g3, 0, none⟩) n3 l3.cR) := by rw [← hg3, hn3]; exact hSt4.sc.blk.cell 2
            have t2f := hSt4.sc.blk.frozen 2
            have t2l := hSt4.sc.blk.lt
            obtain ⟨hSt5, hO45⟩ := StM.cut hSt4
            rw [hg3, HML.out] at hSt5
            rw [hg3, HML.out] at hO45
            rw [HML.out] at hbd3
            have hcut : ∀ w', (Instr.slice 55 (.slice (some ⟨g3, 0, none⟩) n3 l3.cR) none (some (.int .i64 ((ms.length : Int) + 1))) none).run Try.prog w' = .ok (.slice (some ⟨g3, 0, none⟩) (ms.length + 1) l3.cR) w' := fun w' => by
              have h := run_cutP w' g3 n3 l3.cR (ms.length + 1) hc3'
              rw [show ((ms.length + 1 : Nat) : Int) = (ms.length : Int) + 1 from rfl] at h
              exact h
            have HRel := Lib.hid (RunR.on (kx' := kx') Hru.out hi HO.out HG.out (fun o hr => .inOwn (by omega) (by omega) Hc.out hk (by rw [Hrs.out]; omega) HR4.out (by rw [Hrs.out]; exact hr)) hbd3 HR4.out.at_le (by have h := hSt5; rw [HK2.out, HM.out] at h; exact h) (by have h := HO04.out.trans (hO45.mono (T := Ft gs M l2) fun b _ e => .inl e); rw [HM.out] at h; exact h) HGl.out)
            clear hg3 hg3l hn3 hc3 hc3' hSt5 hO45 hSt4 hbd3 HR4 HO04 HGl Hx4
            go_wp2_with fail
            refine ⟨?_, ?measure⟩
            case measure => simp [intOf]; omega
            exact HRel.out
          · refine ⟨rfl, RunR.fall (xs := xs) (kx' := kx') Hru.out HO.out HG.out (.inFar (by omega) (by omega) Hc.out hk (by rw [Hrs.out]; omega) HR4.out (by rw [Hrs.out]; omega)) hbd3 hf (by omega) (by have h := hSt4; rw [HML.out, HK2.out, HM.out] at h; exact h) ⟨mm, by rw [← HM.out]; exact hmm, old, rfl, hold⟩ (by have h := HO04.out; rw [HM.out] at h; exact h) HGl.out Hx4.out⟩
    · as_aux_lemma =>
      have hcall := call_any v3 s2.next M K2 T2 l2 c tA tc HSt3.out.sc (HSt3.out.rd) (by omega) (by omega) (by have h1 := Hbd.out.1; have h2 := Hbd.out.2.2.2; show s2.told.length ≤ 400; omega) hBv3
      rw [show ((M.length : Nat) : Int) = (ms.length : Int) + 1 by rw [hMl]; rfl] at hcall
      have Hcall := Lib.hid hcall
      clear hcall HC3 Hs3
      go_wp2_with fail
      refine Hcall.out.mono ?_
      clear Hcall
      rintro e v4 hp
      unfold CallPost at hp
      rw [show s2.next.callAt c = s2.callAt c from rfl] at hp
      cases hca : s2.callAt c with
      | none =>
        rw [hca] at hp
        obtain ⟨rfl, hb4⟩ := hp
        have HRel := Lib.hid (RunR.on (kx' := []) Hru.out hi HO.out HG.out (fun o hr => .void (by omega) (by omega) Hc.out hk hca hr) (Hbd.out.next (by omega)) (Nat.le_refl _) (by have h := HSt3.out.below hb4; rw [HML.out, HK2.out, HM.out] at h; rw [List.append_nil]; exact h) (by have h := HO03.out.trans (Only.of_fresh hb4); rw [HM.out] at h; exact h) (GrewL.refl _ _))
        clear hb4 hca
        go_wp2_with fail
        refine ⟨?_, ?measure⟩
        case measure => simp [intOf]; omega
        exact HRel.out
      | some x =>
        rw [hca] at hp
        cases x with
        | ok ga =>
          obtain ⟨g, a⟩ := ga
          obtain ⟨rfl, mm, A4, c4, t4, hmm, hS4, hgr, hfr, hR4, hO4⟩ := hp
          have HRel := Lib.hid (RunR.on (kx' := []) (l3 := ⟨l2.AR, l2.cR, l2.AK, l2.cK, A4, c4, l2.AE, l2.cE⟩) Hru.out hi HO.out HG.out (fun o hr => .told (by omega) (by omega) Hc.out hk hca hr) (Hbd.out.tell (by omega) _ _ _) (Nat.le_refl _) (by have h := HSt3.out.tellS HZ3.out hS4 hR4 hfr; rw [HML.out, HK2.out, HM.out] at h; rw [List.append_nil]; exact h)
            (by
              have h := HO03.out.trans (hO4.mono (T := Ft gs M l2) fun b _ e => by
                rcases e with e | e | e
                · exact .inl e
                · exact .inr (.inr (.inr (.inr (.inr ⟨mm, List.mem_of_getElem? hmm, e.symm⟩))))
                · exact .inr (.inr (.inr (.inl e))))
              rw [HM.out] at h
              exact h) ⟨.refl _ _, .refl _ _, fun b e => (hgr b e).imp id (fun h => by have := HO03.out.size; omega), .refl _ _⟩)
          clear hca hmm hS4 hgr hfr hR4 hO4
          go_wp2_with fail
          refine ⟨?_, ?measure⟩
          case measure => simp [intOf]; omega
          exact HRel.out
        | error f =>
          obtain ⟨mm, hmm, rfl, hf, hS4, hR4, hO4⟩ := hp
          have hjl : s2.jOf c < M.length := by rw [← HSt.out.sc.rlen.symm]; exact PS.jOf_lt (by rw [Hrs.out]; omega)
          refine ⟨rfl, RunR.fall (xs := []) (kx' := []) Hru.out HO.out HG.out (.fell (by omega) (by omega) Hc.out hk hca) (Hbd.out.next (by omega)) hf (by omega) (by have h := HSt3.out.fallen hS4 hR4 hjl; rw [HML.out, HK2.out, HM.out] at h; rw [List.append_nil, List.append_nil]; exact h) ⟨mm, by rw [← HM.out]; exact hmm, [], rfl, fun p h => by cases h⟩
            (by
              have h := HO03.out.trans (hO4.mono (T := Ft gs M l2) fun b _ e => .inr (.inr (.inr (.inr (.inr ⟨mm, List.mem_of_getElem? hmm, e.symm⟩)))))
              rw [HM.out] at h
              exact h) (GrewL.refl _ _) (fun m hm => by cases hm)⟩
end Go.Proofs.Ytefaapcekbgjoaa
