/- One call of a script's Reader: the program's. -/
import Derived.Test.YtefaapcekbgjoaaMrW
import Derived.Test.YtefaapcekbgjoaaHeadA
import Derived.Test.YtefaapcekbgjoaaBigA
import Derived.Test.YtefaapcekbgjoaaApp2
import Derived.Deep.CutRange
import Derived.BigQuiet
namespace Go.Proofs.Ytefaapcekbgjoaa
open Go.RowKit

set_option maxRecDepth 100000 in
theorem rMost_any (g c at_ : Nat) (n : Int) (A : Option Addr) (bs : List UInt8) (w : World) (h : Rd w g A c bs at_ false 0) (hl : bs.length ≤ 140737488351232) :
    Calls Try.prog 71 #[.pointer (some ⟨g, 0, none⟩), .int .i64 n] w fun e w' => match rMostL bs at_ n with
      | .ok (u, k) => e = .returned (.int .i64 (u : Int)) ∧ Rd w' g A c bs (at_ + k) false 0 ∧ Only (fun b => b = g) w w'
      | .error f => Fell w g A c bs f e w' := by
  have hc := rNum_any g c at_ A bs w h hl
  clear h
  cases hn : rNumL bs at_ with
  | error f =>
    rw [hn] at hc
    have e : rMostL bs at_ n = .error f := by unfold rMostL; rw [hn]
    rw [e]
    go_enter Try.func71, Try.ntmps71
    go_wp2_with fail
    refine hc.mono ?_
    rintro e w' ⟨rfl, hrd, ho⟩
    exact ⟨rfl, rfl, hrd, ho⟩
  | ok uk =>
    obtain ⟨u, k⟩ := uk
    rw [hn] at hc
    by_cases hbig : n < (u : Int)
    · have e : rMostL bs at_ n = .error 2 := by unfold rMostL; rw [hn]; exact if_pos hbig
      rw [e]
      go_enter Try.func71, Try.ntmps71
      go_wp2_with fail
      refine hc.mono ?_
      rintro e w' ⟨rfl, hrd, ho⟩
      have Hrd := Lib.hid hrd
      have Ho := Lib.hid ho
      have c2 := hrd.c2
      have gl := hrd.blk.lt
      clear hc hrd ho
      go_wp2_with fail
      refine (fail_any g c _ A bs 2 (by decide) w' Hrd.out).mono ?_
      rintro e w4 ⟨rfl, hrd4, ho4⟩
      exact ⟨rfl, rfl, hrd4, Ho.out.trans ho4⟩
    · have e : rMostL bs at_ n = .ok (u, k) := by unfold rMostL; rw [hn]; exact if_neg hbig
      rw [e]
      go_enter Try.func71, Try.ntmps71
      go_wp2_with fail
      refine hc.mono ?_
      rintro e w' ⟨rfl, hrd, ho⟩
      have Hrd := Lib.hid hrd
      have Ho := Lib.hid ho
      have c2 := hrd.c2
      have gl := hrd.blk.lt
      clear hc hrd ho
      go_wp2_with fail
      go_ret
      exact ⟨rfl, Hrd.out, Ho.out⟩
theorem got_info : (Try.prog.info? 71).map (fun i => (i.zero, i.size, i.bytes)) = some (some (.agg #[.int .i64 0, .int .i64 0, .slice none 0 0]), 3, 40) := by kernel_rfl
theorem eGot : Elem Try.prog 56 71 3 40 := elem_of Try.underlying56 got_info rfl (by decide)
theorem numE {bs : List UInt8} {a : Nat} {f : Int} (h : numberL bs a = .error f) : f ≠ 0 := by
  unfold numberL at h
  repeat' split at h
  all_goals first | (injection h with h; omega) | cases h
theorem rNumE {bs : List UInt8} {a : Nat} {f : Int} (h : rNumL bs a = .error f) : f ≠ 0 := by
  unfold rNumL at h
  split at h
  · rename_i hn; injection h with h; subst h; exact numE hn
  · split at h
    · injection h with h; omega
    · cases h
theorem rBoolE {bs : List UInt8} {a : Nat} {f : Int} (h : rBoolL bs a = .error f) : f ≠ 0 := by
  unfold rBoolL at h
  repeat' split at h
  all_goals first | (injection h with h; omega) | cases h
theorem rRawE {bs : List UInt8} {a : Nat} {n f : Int} (h : rRawL bs a n = .error f) : f ≠ 0 := by
  unfold rRawL at h
  repeat' split at h
  all_goals first | (injection h with h; omega) | cases h
theorem rBytesE {bs : List UInt8} {a : Nat} {f : Int} (h : rBytesL bs a = .error f) : f ≠ 0 := by
  unfold rBytesL at h
  split at h
  · rename_i hn; injection h with h; subst h; exact rNumE hn
  · split at h
    · injection h with h; omega
    · cases h
theorem rMostE {bs : List UInt8} {a : Nat} {n f : Int} (h : rMostL bs a n = .error f) : f ≠ 0 := by
  unfold rMostL at h
  split at h
  · rename_i hn; injection h with h; subst h; exact rNumE hn
  · split at h
    · injection h with h; omega
    · cases h
/-- Behind the switch: what the Reader told lies in g's block. -/
structure CallMid (w3 : World) (c : PCall) (m : Gm) (r : List UInt8 × Nat) (gg : Nat) (wx : World) : Prop where
  out : ∃ (g : PGot) (a : Nat) (t : Option Addr × Nat), callR c r.1 r.2 = some (.ok (g, a)) ∧ g.kind = c.kind ∧ Blk wx gg 71 #[.int .i64 c.kind, .int .i64 g.n, .slice t.1 g.b.length t.2] ∧ Bt wx t g.b ∧ (∀ b o, t.1 = some ⟨b, o, none⟩ → w3.heap.size ≤ b) ∧ RdT wx m r.1 a false 0 ∧ Only (fun b => b = m.g ∨ b = gg) w3 wx
section
variable {w3 w4 : World} {c : PCall} {m : Gm} {r : List UInt8 × Nat} {gg : Nat}
theorem CallMid.num (v : Int) (a : Nat) (hG : Blk w4 gg 71 #[.int .i64 c.kind, .int .i64 0, .slice none 0 0]) (hR : RdT w4 m r.1 a false 0) (ho : Only (fun b => b = m.g) w3 w4) (hc : callR c r.1 r.2 = some (.ok (⟨c.kind, v, []⟩, a))) :
    CallMid w3 c m r gg (w4.setCell ⟨gg, 1, none⟩ (.int .i64 v)) := by
  have hO : Only (fun b => b = gg) w4 (w4.setCell ⟨gg, 1, none⟩ (.int .i64 v)) := (Only.refl (fun b => b = gg) w4).setCell (p := ⟨gg, 1, none⟩) (.inl rfl) _
  exact ⟨⟨c.kind, v, []⟩, a, (none, 0), hc, rfl, Blk.setL (cs := [.int .i64 c.kind, .int .i64 0, .slice none 0 0]) hG 1 _, ⟨RV.of_own (Own.nil w4 0 5 1) |>.only hO (fun _ b o e => by cases e), fun b o e => by cases e⟩, (fun b o e => by cases e),
    hR.only hO (fun e => by have h := hR.rd.blk; rw [e] at h; exact absurd (blkT_eq h.ty hG.ty) (by decide)) (fun b hb e => by rw [e] at hb; exact absurd (blkT_eq hb hG.ty) (by decide)), (ho.mono fun _ _ e => .inl e).trans (hO.mono fun _ _ e => .inr e)⟩
theorem CallMid.nil (a : Nat) (hG : Blk w4 gg 71 #[.int .i64 c.kind, .int .i64 0, .slice none 0 0]) (hR : RdT w4 m r.1 a false 0) (ho : Only (fun b => b = m.g) w3 w4) (hc : callR c r.1 r.2 = some (.ok (⟨c.kind, 0, []⟩, a))) : CallMid w3 c m r gg w4 :=
  ⟨⟨c.kind, 0, []⟩, a, (none, 0), hc, rfl, hG, ⟨RV.of_own (Own.nil w4 0 5 1), fun b o e => by cases e⟩, (fun b o e => by cases e), hR, ho.mono fun _ _ e => .inl e⟩
theorem CallMid.bytes (A2 : Option Addr) (c2 : Nat) (ys : List UInt8) (a : Nat) (hG : Blk w4 gg 71 #[.int .i64 c.kind, .int .i64 0, .slice none 0 0]) (hR : RdT w4 m r.1 a false 0) (hB : Bt w4 (A2, c2) ys) (hfr : ∀ b o, A2 = some ⟨b, o, none⟩ → w3.heap.size ≤ b) (ho : Only (fun b => b = m.g) w3 w4) (hc : callR c r.1 r.2 = some (.ok (⟨c.kind, 0, ys⟩, a))) :
    CallMid w3 c m r gg (w4.setCell ⟨gg, 2, none⟩ (.slice A2 ys.length c2)) := by
  have hO : Only (fun b => b = gg) w4 (w4.setCell ⟨gg, 2, none⟩ (.slice A2 ys.length c2)) := (Only.refl (fun b => b = gg) w4).setCell (p := ⟨gg, 2, none⟩) (.inl rfl) _
  have hn : ∀ b, BlkT w4 b 5 → ¬ b = gg := fun b hb e => by rw [e] at hb; exact absurd (blkT_eq hb hG.ty) (by decide)
  exact ⟨⟨c.kind, 0, ys⟩, a, (A2, c2), hc, rfl, Blk.setL (cs := [.int .i64 c.kind, .int .i64 0, .slice none 0 0]) hG 2 _, hB.only hO hn, hfr,
    hR.only hO (fun e => by have h := hR.rd.blk; rw [e] at h; exact absurd (blkT_eq h.ty hG.ty) (by decide)) hn, (ho.mono fun _ _ e => .inl e).trans (hO.mono fun _ _ e => .inr e)⟩
/-- A reader's call leaves g's block, and the reader's bytes, as they are. -/
theorem call_keeps {a : Nat} {o : Bool} {f : Int} {bs : List UInt8} {a0 : Nat} {cs : Array Value} (hG : Blk w3 gg 71 cs) (h0 : RdT w3 m bs a0 false 0) (ho : Only (fun b => b = m.g) w3 w4) (h : Rd w4 m.g m.A m.c bs a o f) : Blk w4 gg 71 cs ∧ RdT w4 m bs a o f :=
  ⟨hG.only ho fun e => by have h1 := h0.rd.blk; rw [← e] at h1; exact absurd (blkT_eq h1.ty hG.ty) (by decide), h, fun b o e => (h0.ty b o e).only ho fun e2 => by have h1 := h0.ty b o e; rw [e2] at h1; exact absurd (blkT_eq h1 h0.rd.blk.ty) (by decide)⟩
end
/-- What a reader told goes into the script's list. -/
theorem ScM.tellM {B gs nC cC : Nat} {AC : Option Addr} {st : PS} {ms : List Gm} {ks : List Gm} {TA : List (Option Addr × Nat)} {l : Sl7} {w6 w7 : World} {g : PGot} {t : Option Addr × Nat} {A2 : Option Addr} {c2 : Nat} (h : ScM w6 B gs AC nC cC st ms ks TA l) (hB : Bt w6 t g.b) (j a : Nat)
    (ho : Own w7 B 71 3 A2 (st.told.length + 1) c2 (((st.told.zip TA).flatMap fun x => gotCells x.1 x.2) ++ gotCells g t)) (hg : w6.grownBy w7 (l.AT.map (·.block))) :
    ScM (w7.setCell ⟨gs, 4, none⟩ (.slice A2 (st.told.length + 1) c2)) B gs AC nC cC (st.tell j a g) ms ks (TA ++ [t]) ⟨l.AR, l.cR, l.AK, l.cK, A2, c2, l.AE, l.cE⟩ ∧ Only (fun b => b = gs ∨ l.AT.map (·.block) = some b) w6 (w7.setCell ⟨gs, 4, none⟩ (.slice A2 (st.told.length + 1) c2)) := by
  have hO7 : Only (fun b => l.AT.map (·.block) = some b) w6 w7 := Only.of_grown hg fun k e => e
  have hat : ∀ b, l.AT.map (·.block) = some b → BlkT w6 b 71 := fun b e => by
    obtain ⟨h1, -, -⟩ := ownG_form h.told b e
    obtain ⟨cs, h2⟩ := own_ty h.told h1
    exact h2.ty
  have hO8 : Only (fun b => b = gs) w7 (w7.setCell ⟨gs, 4, none⟩ (.slice A2 (st.told.length + 1) c2)) := (Only.refl (fun b => b = gs) w7).setCell (p := ⟨gs, 4, none⟩) (.inl rfl) _
  have hn7 : ∀ b ty, BlkT w6 b ty → ty ≠ 71 → ¬ l.AT.map (·.block) = some b := fun b ty hb ht e => ht (blkT_eq hb (hat b e))
  have hblk7 := h.blk.only hO7 (hn7 gs _ h.blk.ty (by decide))
  have hn8 : ∀ b ty, BlkT w7 b ty → ty ≠ 59 → ¬ b = gs := fun b ty hb ht e => by rw [e] at hb; exact ht (blkT_eq hb hblk7.ty)
  have own : ∀ {e : TypeId} {sz n c : Nat} {A : Option Addr} {vs : List Value}, e ≠ 71 → e ≠ 59 → Own w6 B e sz A n c vs → Own (w7.setCell ⟨gs, 4, none⟩ (.slice A2 (st.told.length + 1) c2)) B e sz A n c vs := fun he he2 ho2 => by
    have h7 := Own.only ho2 hO7 fun b o e2 => by
      obtain ⟨cs, hb⟩ := own_ty ho2 e2
      exact hn7 b _ hb.ty he
    exact Own.only h7 hO8 fun b o e2 => by
      obtain ⟨cs, hb⟩ := own_ty h7 e2
      exact hn8 b _ hb.ty he2
  have bt : ∀ {t : Option Addr × Nat} {ys : List UInt8}, Bt w6 t ys → Bt (w7.setCell ⟨gs, 4, none⟩ (.slice A2 (st.told.length + 1) c2)) t ys := fun hb => (hb.only hO7 fun b hb2 => hn7 b _ hb2 (by decide)).only hO8 fun b hb2 => hn8 b _ hb2 (by decide)
  have hz : (st.told ++ [g]).zip (TA ++ [t]) = st.told.zip TA ++ [(g, t)] := by
    rw [List.zip_append h.tlen.symm]; rfl
  refine ⟨⟨?_, h.low, own (by decide) (by decide) h.rows, own (by decide) (by decide) h.kept, h.apart, ?_, ?_, fun i x u h1 h2 => ?_, own (by decide) (by decide) h.ret, ?_, h.many, h.sole, h.base⟩, (hO7.mono fun _ _ e => .inr e).trans (hO8.mono fun _ _ e => .inl e)⟩
  · have h1 := Blk.setL (cs := (scriptCells AC nC cC st ms.length ks.length l).toList) hblk7 4 (.slice A2 (st.told.length + 1) c2)
    unfold scriptCells at h1 ⊢
    show Blk _ gs _ #[_, _, _, _, .slice A2 (st.told ++ [g]).length c2, _, _]
    rw [List.length_append]
    exact h1
  · show Own _ B _ 3 A2 (st.told ++ [g]).length c2 (((st.told ++ [g]).zip (TA ++ [t])).flatMap fun x => gotCells x.1 x.2)
    rw [hz, List.flatMap_append, List.length_append]
    exact Own.only ho hO8 fun b o e2 => by
      obtain ⟨cs, hb⟩ := own_ty ho e2
      exact hn8 b _ hb.ty (by decide)
  · show (TA ++ [t]).length = (st.told ++ [g]).length
    rw [List.length_append, List.length_append, h.tlen]; rfl
  · change (st.told ++ [g])[i]? = some x at h1
    by_cases hi : i < st.told.length
    · rw [List.getElem?_append_left hi] at h1
      rw [List.getElem?_append_left (by rw [h.tlen]; exact hi)] at h2
      exact bt (h.tb i x u h1 h2)
    · rw [List.getElem?_append_right (by omega)] at h1
      rw [List.getElem?_append_right (by rw [h.tlen]; omega), h.tlen] at h2
      obtain h3 | h3 : i - st.told.length = 0 ∨ 0 < i - st.told.length := by omega
      · rw [h3] at h1 h2
        injection h1 with h1
        injection h2 with h2
        subst h1 h2
        exact bt hB
      · rw [List.getElem?_eq_none (by rw [List.length_singleton]; exact h3)] at h1
        cases h1
  · show ms.length = (st.rs.set j _).length
    rw [List.length_set]; exact h.rlen
theorem wpList_strBytes2 {P : Program} {w : World} {ops : Array Oper} {rest : List Oper} {o : Oper} {a : Act} {Q : Exit → Act → World → Prop} (hgd : o.guard = none) (x : Operand) {src dst e : TypeId} (s : ByteArray) {u : TypeDesc} (ho : o.op = .convert src dst x) (hx : a.eval x = .string s)
    (hs : P.underlying src = some u) (hd : P.underlying dst = some (.slice e)) (he : P.underlying e = some (.int .u8))
    (h : ∀ c w', RV w' (some ⟨w.heap.size, 0, none⟩) (s.data.toList.map bv) → Below w.heap.size w w' → w'.heap.size = w.heap.size + 1 → (∃ cs fz, w'.heap[w.heap.size]? = some (.cells cs e fz)) → wpList P ops Q rest (a.put o.dst (.slice (some ⟨w.heap.size, 0, none⟩) s.size c)) w') : wpList P ops Q (o :: rest) a w := by
  refine wpList_plain hgd fun K hK => wp_of_run (v := .slice (some ⟨w.heap.size, 0, none⟩) s.size (grownCap w s.size 0 e)) (w' := Lib.bytesWorld w e s) ?_ (hK _ _ (h _ _ ?_ ?_ (Lib.bytesWorld_size w e s) ⟨_, _, Lib.bytesWorld_at_new w e s⟩))
  · unfold execOp
    simp only [ho, hx, Sem.run_bind, Lib.run_convert_string_bytes w src dst e s hs hd he, Result.andThen_ok, Sem.run_pure]
  · right
    refine ⟨w.heap.size, 0, rfl, by rw [Lib.bytesWorld_size]; omega, fun j u hu => ?_⟩
    rw [List.getElem?_map] at hu
    obtain ⟨x, hx, rfl⟩ := Option.map_eq_some_iff.1 hu
    have hj : j < s.size := by
      have := (List.getElem?_eq_some_iff.1 hx).1
      rw [Array.length_toList] at this
      exact this
    rw [Nat.zero_add, Lib.bytesWorld_cell w e s j hj, List.getD_eq_getElem?_getD, hx]
    rfl
  · exact ⟨rfl, rfl, rfl, by rw [Lib.bytesWorld_size]; omega, fun k hk => Lib.bytesWorld_at_old w e s k hk⟩
def Grew (w : World) (A A' : Option Addr) : Prop := ∀ b, A'.map (·.block) = some b → A.map (·.block) = some b ∨ w.heap.size ≤ b
def CallPost (B gs : Nat) (AC : Option Addr) (nC cC : Nat) (st : PS) (ms : List Gm) (ks : List Gm) (TA : List (Option Addr × Nat)) (l : Sl7) (c : PCall) (w : World) (e : Ending) (w' : World) : Prop :=
  match st.callAt c with
  | none => e = .returned (.tuple #[]) ∧ Below w.heap.size w w'
  | some (.ok (g, a)) => e = .returned (.tuple #[]) ∧ ∃ m A2 c2 t, ms[st.jOf c]? = some m ∧ ScM w' B gs AC nC cC (st.tell (st.jOf c) a g) ms ks (TA ++ [t]) ⟨l.AR, l.cR, l.AK, l.cK, A2, c2, l.AE, l.cE⟩ ∧ Grew w l.AT A2 ∧ (∀ b o, t.1 = some ⟨b, o, none⟩ → w.heap.size ≤ b) ∧
      RdsM w' (st.tell (st.jOf c) a g) ms ks ms.length none ∧ Only (fun b => b = gs ∨ b = m.g ∨ l.AT.map (·.block) = some b) w w'
  | some (.error f) => ∃ m, ms[st.jOf c]? = some m ∧ e = .panicked [endedE m.g] ∧ f ≠ 0 ∧ ScM w' B gs AC nC cC st ms ks TA l ∧ RdsM w' st ms ks ms.length (some (st.jOf c, f)) ∧ Only (fun b => b = m.g) w w'
theorem own_blk_ne2 {w : World} {base size n c g : Nat} {e t : TypeId} {A : Option Addr} {vs : List Value} {cs : Array Value} (h : Own w base e size A n c vs) (hg : Blk w g t cs) (hne : e ≠ t) (hb : A.map (·.block) = some g) : False := by
  obtain ⟨h1, -, -⟩ := ownG_form h g hb
  obtain ⟨cs2, h2⟩ := own_ty h h1
  exact hne (blkT_eq h2.ty hg.ty)
theorem post_fell {B gs nC cC j : Nat} {AC : Option Addr} {w w3 w4 : World} {st : PS} {ms : List Gm} {ks : List Gm} {TA : List (Option Addr × Nat)} {l : Sl7} {c : PCall} {m : Gm} {r : List UInt8 × Nat} {f : Int} {aa : Nat}
    (hS : ScM w3 B gs AC nC cC st ms ks TA l) (hR : RdsM w3 st ms ks ms.length none) (h0 : RdT w3 m r.1 r.2 false 0) (hca : st.callAt c = callR c r.1 r.2) (hm : ms[j]? = some m) (hr : st.rs[j]? = some r) (hj : j = st.jOf c) (hjd : j < ms.length) (hb : Below w.heap.size w w3)
    (hcr : callR c r.1 r.2 = some (.error f)) (hf : f ≠ 0) (h4 : Rd w4 m.g m.A m.c r.1 aa true f) (ho : Only (fun b => b = m.g) w3 w4) : CallPost B gs AC nC cC st ms ks TA l c w (.panicked [endedE m.g]) w4 := by
  unfold CallPost
  rw [hca, hcr]
  have hty : ∀ b, BlkT w3 b 5 → ¬ b = m.g := fun b hb e => by rw [e] at hb; exact absurd (blkT_eq hb h0.rd.blk.ty) (by decide)
  have hT4 : RdT w4 m r.1 aa true f := ⟨h4, fun b o e => (h0.ty b o e).only ho (hty b (h0.ty b o e))⟩
  refine ⟨m, by rw [← hj]; exact hm, rfl, hf, hS.only ho (fun b t hb ht e => by rw [e] at hb; exact ht (blkT_eq hb h0.rd.blk.ty)), ?_, (Only.of_fresh hb).trans ho⟩
  rw [← hj]
  exact (hR.go hS.sole hm hjd (List.getElem?_eq_some_iff.1 hr).1 ho hT4).2 rfl (by rw [List.getD_eq_getElem?_getD, hr]; rfl)
theorem rRaw_len {bs ys : List UInt8} {a : Nat} {n : Int} (h : rRawL bs a n = .ok ys) : ys.length = n.toNat := by
  unfold rRawL at h
  split at h
  · cases h
  · split at h
    · cases h
    · injection h with h
      subst h
      rw [List.length_take, List.length_drop]
      omega
theorem fail_zero (g c at_ : Nat) (A : Option Addr) (bs : List UInt8) (w : World) (h : Rd w g A c bs at_ false 0) :
    Calls Try.prog 41 #[.pointer (some ⟨g, 0, none⟩), .int .i64 0] w fun e w' => e = .returned (.tuple #[]) ∧ w' = w := by
  have h2 := h.c2
  have hgl := h.blk.lt
  clear h
  go_enter Try.func41, Try.ntmps41
  go_wp2_with fail
  go_end0
  exact ⟨rfl, rfl⟩
set_option maxRecDepth 100000 in
set_option maxHeartbeats 4000000 in
theorem call_any {B gs nC cC : Nat} {AC : Option Addr} (w : World) (st : PS) (ms : List Gm) (ks : List Gm) (TA : List (Option Addr × Nat)) (l : Sl7) (c : PCall) (cA : Option Addr) (cc : Nat)
    (hS : ScM w B gs AC nC cC st ms ks TA l) (hR : RdsM w st ms ks ms.length none) (hd : 0 < ms.length) (hd2 : ms.length ≤ 20) (ht : st.told.length ≤ 400) (hB : B ≤ w.heap.size) :
    Calls Try.prog 65 #[pv gs, .agg #[.int .i64 c.kind, .int .i64 c.n, .int .i64 c.out, .slice cA c.b.length cc], .int .i64 (ms.length : Int)] w (CallPost B gs AC nC cC st ms ks TA l c w) := by
  obtain ⟨d, hdd⟩ : ∃ d, d = ms.length := ⟨_, rfl⟩
  rw [← hdd] at hd hd2 ⊢
  obtain ⟨k, hk⟩ : ∃ k, k = roundN c.out d := ⟨_, rfl⟩
  have hem1 := Int.emod_nonneg c.out (show (d : Int) ≠ 0 by omega)
  have hem2 := Int.emod_lt_of_pos c.out (show (0 : Int) < (d : Int) by omega)
  have hkI : c.out % (d : Int) = (k : Int) := by
    rw [hk]; unfold roundN; exact (Int.toNat_of_nonneg hem1).symm
  have hkd : k < d := by omega
  obtain ⟨j, hj⟩ : ∃ j, j = st.jOf c := ⟨_, rfl⟩
  have hjI : (d : Int) - 1 - (k : Int) = (j : Int) := by
    have h1 := hS.rlen
    rw [hj]; unfold PS.jOf
    rw [← h1, ← hdd, ← hk]
    omega
  have hjd : j < d := by omega
  obtain ⟨m, hm⟩ : ∃ m, ms[j]? = some m := ⟨_, List.getElem?_eq_getElem (by omega)⟩
  obtain ⟨r, hr⟩ : ∃ r, st.rs[j]? = some r := ⟨_, List.getElem?_eq_getElem (by have := hS.rlen; omega)⟩
  obtain ⟨hrd, hrl⟩ := hR.good j m r (by omega) hm hr (fun y h => by cases h)
  obtain ⟨gR, hgR, -, hgR2⟩ := ownG_some hS.rows (by omega)
  have hrow := hS.rows
  rw [hgR] at hrow
  obtain ⟨rc, -, -⟩ := ownG_at hrow j (by simp; omega)
  rw [List.getElem_map] at rc
  have hmj : ms[j]'(by omega) = m := by
    have h := hm
    rw [List.getElem?_eq_getElem (by omega)] at h
    exact Option.some.inj h
  rw [hmj] at rc
  have hca : st.callAt c = callR c r.1 r.2 := by
    unfold PS.callAt
    rw [← hj, List.getD_eq_getElem?_getD, hr]; rfl
  obtain ⟨w1, hw1⟩ : ∃ w', w' = w.alloc (.cells #[.int .i64 c.kind, .int .i64 c.n, .int .i64 c.out, .slice cA c.b.length cc] 111) := ⟨_, rfl⟩
  have hb1 : Below w.heap.size w w1 := by rw [hw1]; exact (Below.refl _ _).alloc (Nat.le_refl _) _
  obtain ⟨gb, hgb⟩ : ∃ g, g = w.heap.size := ⟨_, rfl⟩
  have hC1 : Blk w1 gb 111 #[.int .i64 c.kind, .int .i64 c.n, .int .i64 c.out, .slice cA c.b.length cc] := by rw [hw1, hgb]; exact Blk.new _ _ _
  have hS1 := hS.below hb1
  have sc := hS1.blk.cell 2
  have sc2 : w1.cell? ⟨gs, 2, none⟩ = some (.slice (some ⟨gR, 0, none⟩) d l.cR) := by rw [sc, ← hgR, hdd]; rfl
  have sl := hS1.blk.lt
  have bc : w1.cell? ⟨gb, 2, none⟩ = some (.int .i64 c.out) := hC1.cell 2
  have bl := hC1.lt
  have rc1 : w1.cell? ⟨gR, j, none⟩ = some (pv m.g) := by rw [(bcell hb1).1 _ _ hgR2]; exact rc
  have rl1 : gR < w1.heap.size := Nat.lt_of_lt_of_le hgR2 hb1.size
  have HS := Lib.hid hS
  have HR := Lib.hid hR
  have HRd0 := Lib.hid hrd
  have HS1 := Lib.hid hS1
  have HR1 := Lib.hid (hR.below hb1)
  have HRd := Lib.hid (hrd.below hb1)
  have HC1 := Lib.hid hC1
  have Hca := Lib.hid hca
  have Hm := Lib.hid hm
  have Hr := Lib.hid hr
  have Hb1 := Lib.hid hb1
  have Hw1 := Lib.hid hw1
  have Hgb := Lib.hid hgb
  have Hj := Lib.hid hj
  have Hrl := Lib.hid hrl
  have Hdd := Lib.hid hdd
  have HgR := Lib.hid hgR
  have Hjd := Lib.hid (show j < ms.length by omega)
  have hro := round_any c.out (d : Int)
  have hwr1 : IntKind.i64.wrap ((d : Int) - 1) = (d : Int) - 1 := by rw [IntKind.wrap_i64]; omega
  have hwr3 : IntKind.i64.wrap (j : Int) = (j : Int) := by rw [IntKind.wrap_i64]; omega
  have hwr2 : IntKind.i64.wrap ((d : Int) - 1 - (k : Int)) = (j : Int) := by rw [hjI, IntKind.wrap_i64]; omega
  clear hS hR hdd hk hem1 hem2 hj hm hr hrd hrl hgR hgR2 hrow rc hmj hca hw1 hb1 hgb hC1 hS1 sc
  go_enter Try.func65, Try.ntmps65
  go_upto_region 1 with (fail)
  rw [← Hw1.out, ← Hgb.out]
  clear Hw1
  obtain ⟨SC, hSCd⟩ : ∃ S : World → Prop, S = fun w' => (w'.cell? ⟨gs, 2, none⟩ = some (.slice (some ⟨gR, 0, none⟩) d l.cR) ∧ gs < w'.heap.size) ∧ (w'.cell? ⟨gb, 2, none⟩ = some (.int .i64 c.out) ∧ gb < w'.heap.size) ∧ (w'.cell? ⟨gR, j, none⟩ = some (pv m.g) ∧ gR < w'.heap.size) := ⟨_, rfl⟩
  have hSC : SC w1.drew := by rw [hSCd]; exact ⟨⟨sc2, sl⟩, ⟨bc, bl⟩, ⟨rc1, rl1⟩⟩
  have HSC := Lib.hid (show SC w1.drew from hSC)
  have HSd := Lib.hid hSCd
  clear hSC hSCd
  refine region_heldT 14 SC (by kernel_rfl) (by decide) ?_
  refine HeadW.takeA 0 (v := pv gs) rfl (by kernel_rfl) rfl (by decide) (fun _ _ _ hL => seqB_ready hL.1) (by kernel_rfl) (by kernel_rfl) (fun _ _ _ h => h) HSC.out (.inl ⟨by kernel_rfl, by intro w hSw; rw [HSd.out] at hSw; obtain ⟨⟨e0, l0⟩, ⟨e1, l1⟩, ⟨e2, l2⟩⟩ := hSw; go_simp⟩) ?_
  simp only [Act.put, List.setIfInBounds_toArray]
  refine HeadW.takeA 1 (v := pv gs) rfl (by kernel_rfl) rfl (by decide) (fun _ _ _ hL => seqB_ready hL.1) (by kernel_rfl) (by kernel_rfl) (fun _ _ _ h => h) HSC.out (.inl ⟨by kernel_rfl, by intro w hSw; rw [HSd.out] at hSw; obtain ⟨⟨e0, l0⟩, ⟨e1, l1⟩, ⟨e2, l2⟩⟩ := hSw; go_simp⟩) ?_
  simp only [Act.put]
  refine HeadW.takeA 2 (v := .pointer (some ⟨gs, 2, none⟩)) rfl (by kernel_rfl) rfl (by decide) (fun _ _ _ hL => seqB_ready hL.1) (by kernel_rfl) (by kernel_rfl) (fun _ _ _ h => h) HSC.out (.inl ⟨by kernel_rfl, by intro w hSw; rw [HSd.out] at hSw; obtain ⟨⟨e0, l0⟩, ⟨e1, l1⟩, ⟨e2, l2⟩⟩ := hSw; go_simp⟩) ?_
  simp only [Act.put]
  refine HeadW.takeA 3 (v := .slice (some ⟨gR, 0, none⟩) d l.cR) rfl (by kernel_rfl) rfl (by decide) (fun _ _ _ hL => seqB_ready hL.1) (by kernel_rfl) (by kernel_rfl) (fun _ _ _ h => h) HSC.out (.inl ⟨by kernel_rfl, by intro w hSw; rw [HSd.out] at hSw; obtain ⟨⟨e0, l0⟩, ⟨e1, l1⟩, ⟨e2, l2⟩⟩ := hSw; go_simp⟩) ?_
  simp only [Act.put]
  refine HeadW.takeA 4 (v := .int .i64 (d : Int)) rfl (by kernel_rfl) rfl (by decide) (fun _ _ _ hL => seqB_ready hL.1) (by kernel_rfl) (by kernel_rfl) (fun _ _ _ h => h) HSC.out (.inl ⟨by kernel_rfl, by intro w hSw; rw [HSd.out] at hSw; obtain ⟨⟨e0, l0⟩, ⟨e1, l1⟩, ⟨e2, l2⟩⟩ := hSw; go_simp⟩) ?_
  simp only [Act.put]
  refine HeadW.takeA 5 (v := .int .i64 ((d : Int) - 1)) rfl (by kernel_rfl) rfl (by decide) (fun _ _ _ hL => seqB_ready hL.1) (by kernel_rfl) (by kernel_rfl) (fun _ _ _ h => h) HSC.out (.inl ⟨by kernel_rfl, by intro w hSw; rw [HSd.out] at hSw; obtain ⟨⟨e0, l0⟩, ⟨e1, l1⟩, ⟨e2, l2⟩⟩ := hSw; go_simp⟩) ?_
  simp only [Act.put]
  refine HeadW.takeA 6 (v := .pointer (some ⟨gb, 2, none⟩)) rfl (by kernel_rfl) rfl (by decide) (fun _ _ _ hL => seqB_ready hL.1) (by kernel_rfl) (by kernel_rfl) (fun _ _ _ h => h) HSC.out (.inl ⟨by kernel_rfl, by intro w hSw; rw [HSd.out] at hSw; obtain ⟨⟨e0, l0⟩, ⟨e1, l1⟩, ⟨e2, l2⟩⟩ := hSw; go_simp⟩) ?_
  simp only [Act.put]
  refine HeadW.takeA 7 (v := .int .i64 c.out) rfl (by kernel_rfl) rfl (by decide) (fun _ _ _ hL => seqB_ready hL.1) (by kernel_rfl) (by kernel_rfl) (fun _ _ _ h => h) HSC.out (.inl ⟨by kernel_rfl, by intro w hSw; rw [HSd.out] at hSw; obtain ⟨⟨e0, l0⟩, ⟨e1, l1⟩, ⟨e2, l2⟩⟩ := hSw; go_simp⟩) ?_
  simp only [Act.put]
  refine HeadW.takeA 8 (v := .int .i64 (d : Int)) rfl (by kernel_rfl) rfl (by decide) (fun _ _ _ hL => seqB_ready hL.1) (by kernel_rfl) (by kernel_rfl) (fun _ _ _ h => h) HSC.out (.inl ⟨by kernel_rfl, by intro w hSw; rw [HSd.out] at hSw; obtain ⟨⟨e0, l0⟩, ⟨e1, l1⟩, ⟨e2, l2⟩⟩ := hSw; go_simp⟩) ?_
  simp only [Act.put]
  refine headW_one 9 rfl (by decide) (by kernel_rfl) (by kernel_rfl) fun K hK => ?_
  go_simp
  refine (hro _ (by omega) (by omega)).mono ?_
  rintro e wq ⟨rfl, rfl⟩
  rw [hkI]
  refine hK.out _ _ HSC.out (fun hHeld => ?_)
  clear hK K hHeld hro
  refine HeadW.takeA 10 (v := .int .i64 (j : Int)) rfl (by kernel_rfl) rfl (by decide) (fun _ _ _ hL => seqB_ready hL.1) (by kernel_rfl) (by kernel_rfl) (fun _ _ _ h => h) HSC.out (.inl ⟨by kernel_rfl, by intro w hSw; rw [HSd.out] at hSw; obtain ⟨⟨e0, l0⟩, ⟨e1, l1⟩, ⟨e2, l2⟩⟩ := hSw; go_simp⟩) ?_
  simp only [Act.put]
  refine HeadW.takeA 11 (v := .pointer (some ⟨gR, j, none⟩)) rfl (by kernel_rfl) rfl (by decide) (fun _ _ _ hL => seqB_ready hL.1) (by kernel_rfl) (by kernel_rfl) (fun _ _ _ h => h) HSC.out (.inl ⟨by kernel_rfl, by intro w hSw; rw [HSd.out] at hSw; obtain ⟨⟨e0, l0⟩, ⟨e1, l1⟩, ⟨e2, l2⟩⟩ := hSw; go_simp⟩) ?_
  simp only [Act.put]
  refine HeadW.takeA 12 (v := pv m.g) rfl (by kernel_rfl) rfl (by decide) (fun _ _ _ hL => seqB_ready hL.1) (by kernel_rfl) (by kernel_rfl) (fun _ _ _ h => h) HSC.out (.inl ⟨by kernel_rfl, by intro w hSw; rw [HSd.out] at hSw; obtain ⟨⟨e0, l0⟩, ⟨e1, l1⟩, ⟨e2, l2⟩⟩ := hSw; go_simp⟩) ?_
  simp only [Act.put]
  refine headW_one 13 rfl (by decide) (by kernel_rfl) (by kernel_rfl) fun K hK => ?_
  go_simp
  refine hK.out _ _ HSC.out (fun hHeld => ?_)
  clear hK K hHeld
  refine fun hInv => ⟨by kernel_rfl, ?_⟩
  clear hInv
  simp only [List.drop_succ_cons, List.drop_zero]
  obtain ⟨w3, hw3⟩ : ∃ w', w' = (w1.alloc (.cells #[.int .i64 c.kind, .int .i64 0, .slice none 0 0] 71)).drew := ⟨_, rfl⟩
  obtain ⟨gg, hgg⟩ : ∃ g, g = w1.heap.size := ⟨_, rfl⟩
  have hb3 : Below w1.heap.size w1 w3 := by rw [hw3]; exact ((Below.refl _ w1).alloc (Nat.le_refl _) _).drew
  have hG3 : Blk w3 gg 71 #[.int .i64 c.kind, .int .i64 0, .slice none 0 0] := by rw [hw3, hgg]; exact Blk.new w1 _ _
  have HG3 := Lib.hid hG3
  have Hw3 := Lib.hid hw3
  have Hgg := Lib.hid hgg
  have HggL := Lib.hid (show w.heap.size ≤ gg from by rw [hgg]; exact Hb1.out.size)
  have Hb3 := Lib.hid (Hb1.out.trans (hb3.mono Hb1.out.size))
  have HS3 := Lib.hid (HS1.out.below hb3)
  have HR3 := Lib.hid (HR1.out.below hb3)
  have HRd3 := Lib.hid (HRd.out.below hb3)
  have hC3 := HC1.out.below hb3 HC1.out.lt
  have bk0 : w1.drew.cell? ⟨gb, 0, none⟩ = some (.int .i64 c.kind) := HC1.out.cell 0
  have bk3 : w3.cell? ⟨gb, 0, none⟩ = some (.int .i64 c.kind) := hC3.cell 0
  have bn3 : w3.cell? ⟨gb, 1, none⟩ = some (.int .i64 c.n) := hC3.cell 1
  have bl3 := hC3.lt
  have HC3 := Lib.hid hC3
  clear hw3 hgg hb3 hG3 hC3 HS1 HR1 HRd HC1 sc2 sl bc rc1 rl1 hwr1 hwr2 hwr3 HSC HSd
  clear SC
  go_upto_region 3 with (fail)
  rw [← Hw3.out, ← Hgg.out]
  clear Hw3 bk0
  by_cases hk1 : c.kind = 1
  · as_aux_lemma =>
    have hc := rNum_any m.g m.c r.2 m.A r.1 w3 HRd3.out.rd Hrl.out
    go_wp2_with fail
    refine hc.mono ?_
    clear hc
    cases hn : rNumL r.1 r.2 with
    | error f =>
      rintro e w4 ⟨rfl, ⟨aa, hrd4⟩, ho4⟩
      have hcr : callR c r.1 r.2 = some (.error f) := by unfold callR; simp [hk1, hn, Except.map]
      exact ⟨rfl, post_fell HS3.out HR3.out HRd3.out Hca.out Hm.out Hr.out Hj.out Hjd.out Hb3.out hcr (rNumE hn) hrd4 ho4⟩
    | ok uk =>
      obtain ⟨u, k⟩ := uk
      rintro e w4 ⟨rfl, hrd4, ho4⟩
      obtain ⟨hG4, hT4⟩ := call_keeps HG3.out HRd3.out ho4 hrd4
      have hcr : callR c r.1 r.2 = some (.ok (⟨c.kind, (u : Int), []⟩, r.2 + k)) := by unfold callR; simp [hk1, hn, Except.map]
      have hmid := CallMid.num ((u : Int)) (r.2 + k) hG4 hT4 ho4 hcr
      have g1 : w4.cell? ⟨gg, 1, none⟩ = some (.int .i64 0) := hG4.cell 1
      have g2 : w4.cell? ⟨gg, 2, none⟩ = some (.slice none 0 0) := hG4.cell 2
      have gf := hG4.frozen 1
      have gf2 := hG4.frozen 2
      have gl := hG4.lt
      obtain ⟨w5, hw5⟩ : ∃ w', w' = w4.setCell ⟨gg, 1, none⟩ (.int .i64 ((u : Int))) := ⟨_, rfl⟩
      have hmid := show CallMid _ c m r gg w5 from by rw [hw5]; exact hmid
      have Hw5 := Lib.hid hw5
      obtain ⟨g, a, t, hcr, hgk, hG5, hB5, hfr5, hT5, hO5⟩ := hmid.out
      have Hfr5 := Lib.hid (show ∀ b o, t.1 = some ⟨b, o, none⟩ → w.heap.size ≤ b from fun b o e => Nat.le_trans Hb3.out.size (hfr5 b o e))
      rw [hk1] at hG5
      have hOw5 : Only (fun b => b = m.g) w w5 := (Only.of_fresh Hb3.out).more hO5 fun b hb e => e.resolve_right (by have := HggL.out; omega)
      have hS5 := HS.out.only hOw5 (fun b ty hb ht e => by rw [e] at hb; exact ht (blkT_eq hb HRd0.out.rd.blk.ty))
      have HS5 := Lib.hid hS5
      have HR5 := Lib.hid ((HR.out.go HS.out.sole Hm.out Hjd.out (List.getElem?_eq_some_iff.1 Hr.out).1 hOw5 hT5).1 rfl rfl (by rw [List.getD_eq_getElem?_getD, Hr.out]; rfl) g)
      have HB5 := Lib.hid hB5
      have Hcr := Lib.hid hcr
      have Hgk := Lib.hid hgk
      have HOw5 := Lib.hid hOw5
      have s4 : w5.cell? ⟨gs, 4, none⟩ = some (.slice l.AT st.told.length l.cT) := hS5.blk.cell 4
      have sf4 := hS5.blk.frozen 4
      have sl5 := hS5.blk.lt
      have k0 : w5.cell? ⟨gg, 0, none⟩ = some (.int .i64 1) := hG5.cell 0
      have k1 : w5.cell? ⟨gg, 1, none⟩ = some (.int .i64 g.n) := hG5.cell 1
      have k2 : w5.cell? ⟨gg, 2, none⟩ = some (.slice t.1 g.b.length t.2) := hG5.cell 2
      have kl := hG5.lt
      have HG5 := Lib.hid hG5
      clear hw5 hmid hcr hgk hG5 hB5 hfr5 hT5 hO5 hOw5 hS5 hG4 hT4 hrd4 ho4
      go_upto_region 23 with (fail)
      rw [← Hw5.out]
      clear Hw5 g1 g2 gf gf2 gl
      obtain ⟨SC, hSCd⟩ : ∃ S : World → Prop, S = fun w' => (w'.cell? ⟨gs, 4, none⟩ = some (.slice l.AT st.told.length l.cT) ∧ w'.frozen? ⟨gs, 4, none⟩ = false ∧ gs < w'.heap.size) ∧ (w'.cell? ⟨gg, 0, none⟩ = some (.int .i64 1) ∧ w'.cell? ⟨gg, 1, none⟩ = some (.int .i64 g.n) ∧ w'.cell? ⟨gg, 2, none⟩ = some (.slice t.1 g.b.length t.2) ∧ gg < w'.heap.size) := ⟨_, rfl⟩
      have hSC : SC w5.drew := by rw [hSCd]; exact ⟨⟨s4, sf4, sl5⟩, ⟨k0, k1, k2, kl⟩⟩
      have HSC := Lib.hid (show SC w5.drew from hSC)
      have HSd := Lib.hid hSCd
      clear hSC hSCd
      refine region_heldT 8 SC (by kernel_rfl) (by decide) ?_
      refine HeadW.take 0 (v := pv gs) rfl (by kernel_rfl) (by kernel_rfl) (by kernel_rfl) (by decide) (by decide) (fun _ _ _ hL => seqB_ready hL.1) (by kernel_rfl) (by kernel_rfl) (fun _ _ _ h => h) HSC.out (.inl ⟨by kernel_rfl, by intro w hSw; rw [HSd.out] at hSw; obtain ⟨⟨e0, f0, l0⟩, ⟨e1, e2, e3, l1⟩⟩ := hSw; go_simp⟩) ?_
      simp only [Act.put, List.setIfInBounds_toArray]
      refine HeadW.take 1 (v := pv gs) rfl (by kernel_rfl) (by kernel_rfl) (by kernel_rfl) (by decide) (by decide) (fun _ _ _ hL => seqB_ready hL.1) (by kernel_rfl) (by kernel_rfl) (fun _ _ _ h => h) HSC.out (.inl ⟨by kernel_rfl, by intro w hSw; rw [HSd.out] at hSw; obtain ⟨⟨e0, f0, l0⟩, ⟨e1, e2, e3, l1⟩⟩ := hSw; go_simp⟩) ?_
      simp only [Act.put]
      refine HeadW.take 2 (v := pv gs) rfl (by kernel_rfl) (by kernel_rfl) (by kernel_rfl) (by decide) (by decide) (fun _ _ _ hL => seqB_ready hL.1) (by kernel_rfl) (by kernel_rfl) (fun _ _ _ h => h) HSC.out (.inl ⟨by kernel_rfl, by intro w hSw; rw [HSd.out] at hSw; obtain ⟨⟨e0, f0, l0⟩, ⟨e1, e2, e3, l1⟩⟩ := hSw; go_simp⟩) ?_
      simp only [Act.put]
      refine HeadW.take 3 (v := .pointer (some ⟨gs, 4, none⟩)) rfl (by kernel_rfl) (by kernel_rfl) (by kernel_rfl) (by decide) (by decide) (fun _ _ _ hL => seqB_ready hL.1) (by kernel_rfl) (by kernel_rfl) (fun _ _ _ h => h) HSC.out (.inl ⟨by kernel_rfl, by intro w hSw; rw [HSd.out] at hSw; obtain ⟨⟨e0, f0, l0⟩, ⟨e1, e2, e3, l1⟩⟩ := hSw; go_simp⟩) ?_
      simp only [Act.put]
      refine HeadW.take 4 (v := .slice l.AT st.told.length l.cT) rfl (by kernel_rfl) (by kernel_rfl) (by kernel_rfl) (by decide) (by decide) (fun _ _ _ hL => seqB_ready hL.1) (by kernel_rfl) (by kernel_rfl) (fun _ _ _ h => h) HSC.out (.inl ⟨by kernel_rfl, by intro w hSw; rw [HSd.out] at hSw; obtain ⟨⟨e0, f0, l0⟩, ⟨e1, e2, e3, l1⟩⟩ := hSw; go_simp⟩) ?_
      simp only [Act.put]
      refine HeadW.take 5 (v := .agg #[.int .i64 1, .int .i64 g.n, .slice t.1 g.b.length t.2]) rfl (by kernel_rfl) (by kernel_rfl) (by kernel_rfl) (by decide) (by decide) (fun _ _ _ hL => seqB_ready hL.1) (by kernel_rfl) (by kernel_rfl) (fun _ _ _ h => h) HSC.out (.inl ⟨by kernel_rfl, by intro w hSw; rw [HSd.out] at hSw; obtain ⟨⟨e0, f0, l0⟩, ⟨e1, e2, e3, l1⟩⟩ := hSw; go_simp⟩) ?_
      simp only [Act.put]
      clear s4 sf4 sl5 k0 k1 k2 kl
      refine headW_one 6 rfl (by decide) (by kernel_rfl) (by kernel_rfl) fun K hK => ?_
      go_simp
      obtain ⟨w6, hw6⟩ : ∃ w', w' = (w5.alloc (.cells #[.int .i64 1, .int .i64 g.n, .slice t.1 g.b.length t.2] 71)).drew := ⟨_, rfl⟩
      rw [← hw6]
      have hb56 : Below w5.heap.size w5 w6 := by rw [hw6]; exact ((Below.refl _ _).alloc (Nat.le_refl _) _).drew
      have hU6 : Blk w6 w5.heap.size 71 #[.int .i64 1, .int .i64 g.n, .slice t.1 g.b.length t.2] := by rw [hw6]; exact Blk.new w5 _ _
      have HS6 := Lib.hid (HS5.out.below hb56)
      have HG6 := Lib.hid (HG5.out.below hb56 HG5.out.lt)
      have HB6 := Lib.hid (HB5.out.only (S := fun _ => False) (Only.of_fresh hb56) fun _ _ h => h)
      have HR6 := Lib.hid (HR5.out.below hb56)
      have HU6 := Lib.hid hU6
      have HOw6 := Lib.hid (HOw5.out.trans (Only.of_fresh hb56))
      have hB6 : B ≤ w6.heap.size := by have := HOw6.out.size; omega
      have hSC6 : SC w6 := by rw [HSd.out]; exact ⟨⟨HS6.out.blk.cell 4, HS6.out.blk.frozen 4, HS6.out.blk.lt⟩, ⟨HG6.out.cell 0, HG6.out.cell 1, HG6.out.cell 2, HG6.out.lt⟩⟩
      refine hK.out _ _ hSC6 (fun hHeld => ?_)
      clear hK K hHeld hw6 hb56 hU6 hSC6 HSC
      refine headW_one 7 rfl (by decide) (by kernel_rfl) (by kernel_rfl) fun K hK => ?_
      refine wp_app (.tmp 81) (.tmp 83) eGot rfl rfl HS6.out.told (A' := some ⟨w5.heap.size, 0, none⟩) (m := 1) (c' := 1) (us := [.int .i64 1, .int .i64 g.n, .slice t.1 g.b.length t.2]) rfl (RV.of_blk HU6.out) rfl (by intro v hv; simp only [List.mem_cons, List.not_mem_nil, or_false] at hv; rcases hv with rfl | rfl | rfl <;> rfl) (by unfold maxLen; omega) (by omega) hB6 (by intro h; cases h) ?_
      intro A2 c2 w7 ho7 hg7 hA7
      have hO7 : Only (fun b => l.AT.map (·.block) = some b) w6 w7 := Only.of_grown hg7 fun k e => e
      have hS7 := HS6.out.blk.only hO7 (fun e => own_blk_ne2 HS6.out.told HS6.out.blk (by decide) e)
      have hG7 := HG6.out.only hO7 (fun e => by
        obtain ⟨h1, -, -⟩ := ownG_form HS.out.told _ e
        have h2 := HggL.out
        have h3 := (Own.row HS.out.told gg e).2
        omega)
      have hSC7 : SC w7 := by rw [HSd.out]; exact ⟨⟨hS7.cell 4, hS7.frozen 4, hS7.lt⟩, ⟨hG7.cell 0, hG7.cell 1, hG7.cell 2, hG7.lt⟩⟩
      refine hK.out _ _ hSC7 (fun hHeld => ?_)
      obtain ⟨hSn, hOn⟩ := HS6.out.tellM HB6.out j a (by rw [show gotCells g t = [.int .i64 1, .int .i64 g.n, .slice t.1 g.b.length t.2] from by unfold gotCells; rw [Hgk.out, hk1]]; exact ho7) hg7
      have hRn := HR6.out.only hOn (fun b cs hb e => by
        rcases e with e | e
        · rw [e] at hb; exact absurd (blkT_eq hb.ty HS6.out.blk.ty) (by decide)
        · obtain ⟨h1, -, -⟩ := ownG_form HS6.out.told b e
          obtain ⟨cs2, h2⟩ := own_ty HS6.out.told h1
          exact absurd (blkT_eq hb.ty h2.ty) (by decide)) (fun b hb e => by
        rcases e with e | e
        · rw [e] at hb; exact absurd (blkT_eq hb HS6.out.blk.ty) (by decide)
        · obtain ⟨h1, -, -⟩ := ownG_form HS6.out.told b e
          obtain ⟨cs2, h2⟩ := own_ty HS6.out.told h1
          exact absurd (blkT_eq hb h2.ty) (by decide))
      have hgr : Grew w l.AT A2 := fun b e => by
        rcases hA7 with h | h
        · rw [h] at e; exact .inl e
        · rw [h] at e; injection e with e; have := HOw6.out.size; exact .inr (by omega)
      have Hpost := Lib.hid (show CallPost B gs AC nC cC st ms ks TA l c w (.returned (.tuple #[])) (w7.setCell ⟨gs, 4, none⟩ (.slice A2 (st.told.length + 1) c2)) from by
        unfold CallPost
        rw [Hca.out, Hcr.out]
        have hj := Hj.out
        refine ⟨rfl, m, A2, c2, t, by rw [← hj]; exact Hm.out, by rw [← hj]; exact hSn, hgr, Hfr5.out, by rw [← hj]; exact hRn, ?_⟩
        exact (HOw6.out.mono fun _ _ e => .inr (.inl e)).trans (hOn.mono fun _ _ e => e.elim .inl fun e => .inr (.inr e)))
      have t4 : w7.cell? ⟨gs, 4, none⟩ = some (.slice l.AT st.told.length l.cT) := hS7.cell 4
      have tf4 := hS7.frozen 4
      have tl7 := hS7.lt
      clear hK K hHeld ho7 hg7 hA7 hO7 hS7 hG7 hSC7 hSn hOn hRn hgr HSd
      refine fun hInv => ⟨by kernel_rfl, ?_⟩
      clear hInv
      simp only [List.drop_succ_cons, List.drop_zero]
      clear SC
      go_wp2_with fail
      go_end0
      exact Hpost.out
  by_cases hk2 : c.kind = 2
  · as_aux_lemma =>
    have hc := rInt_any m.g m.c r.2 m.A r.1 w3 HRd3.out.rd Hrl.out
    go_wp2_with fail
    refine hc.mono ?_
    clear hc
    cases hn : numberL r.1 r.2 with
    | error f =>
      rintro e w4 ⟨rfl, ⟨aa, hrd4⟩, ho4⟩
      have hcr : callR c r.1 r.2 = some (.error f) := by unfold callR; simp [hk2, hn, Except.map]
      exact ⟨rfl, post_fell HS3.out HR3.out HRd3.out Hca.out Hm.out Hr.out Hj.out Hjd.out Hb3.out hcr (numE hn) hrd4 ho4⟩
    | ok uk =>
      obtain ⟨u, k⟩ := uk
      rintro e w4 ⟨rfl, hrd4, ho4⟩
      obtain ⟨hG4, hT4⟩ := call_keeps HG3.out HRd3.out ho4 hrd4
      have hcr : callR c r.1 r.2 = some (.ok (⟨c.kind, unfoldN u, []⟩, r.2 + k)) := by unfold callR; simp [hk2, hn, Except.map]
      have hmid := CallMid.num (unfoldN u) (r.2 + k) hG4 hT4 ho4 hcr
      have g1 : w4.cell? ⟨gg, 1, none⟩ = some (.int .i64 0) := hG4.cell 1
      have g2 : w4.cell? ⟨gg, 2, none⟩ = some (.slice none 0 0) := hG4.cell 2
      have gf := hG4.frozen 1
      have gf2 := hG4.frozen 2
      have gl := hG4.lt
      obtain ⟨w5, hw5⟩ : ∃ w', w' = w4.setCell ⟨gg, 1, none⟩ (.int .i64 (unfoldN u)) := ⟨_, rfl⟩
      have hmid := show CallMid _ c m r gg w5 from by rw [hw5]; exact hmid
      have Hw5 := Lib.hid hw5
      obtain ⟨g, a, t, hcr, hgk, hG5, hB5, hfr5, hT5, hO5⟩ := hmid.out
      have Hfr5 := Lib.hid (show ∀ b o, t.1 = some ⟨b, o, none⟩ → w.heap.size ≤ b from fun b o e => Nat.le_trans Hb3.out.size (hfr5 b o e))
      rw [hk2] at hG5
      have hOw5 : Only (fun b => b = m.g) w w5 := (Only.of_fresh Hb3.out).more hO5 fun b hb e => e.resolve_right (by have := HggL.out; omega)
      have hS5 := HS.out.only hOw5 (fun b ty hb ht e => by rw [e] at hb; exact ht (blkT_eq hb HRd0.out.rd.blk.ty))
      have HS5 := Lib.hid hS5
      have HR5 := Lib.hid ((HR.out.go HS.out.sole Hm.out Hjd.out (List.getElem?_eq_some_iff.1 Hr.out).1 hOw5 hT5).1 rfl rfl (by rw [List.getD_eq_getElem?_getD, Hr.out]; rfl) g)
      have HB5 := Lib.hid hB5
      have Hcr := Lib.hid hcr
      have Hgk := Lib.hid hgk
      have HOw5 := Lib.hid hOw5
      have s4 : w5.cell? ⟨gs, 4, none⟩ = some (.slice l.AT st.told.length l.cT) := hS5.blk.cell 4
      have sf4 := hS5.blk.frozen 4
      have sl5 := hS5.blk.lt
      have k0 : w5.cell? ⟨gg, 0, none⟩ = some (.int .i64 2) := hG5.cell 0
      have k1 : w5.cell? ⟨gg, 1, none⟩ = some (.int .i64 g.n) := hG5.cell 1
      have k2 : w5.cell? ⟨gg, 2, none⟩ = some (.slice t.1 g.b.length t.2) := hG5.cell 2
      have kl := hG5.lt
      have HG5 := Lib.hid hG5
      clear hw5 hmid hcr hgk hG5 hB5 hfr5 hT5 hO5 hOw5 hS5 hG4 hT4 hrd4 ho4
      go_upto_region 23 with (fail)
      rw [← Hw5.out]
      clear Hw5 g1 g2 gf gf2 gl
      obtain ⟨SC, hSCd⟩ : ∃ S : World → Prop, S = fun w' => (w'.cell? ⟨gs, 4, none⟩ = some (.slice l.AT st.told.length l.cT) ∧ w'.frozen? ⟨gs, 4, none⟩ = false ∧ gs < w'.heap.size) ∧ (w'.cell? ⟨gg, 0, none⟩ = some (.int .i64 2) ∧ w'.cell? ⟨gg, 1, none⟩ = some (.int .i64 g.n) ∧ w'.cell? ⟨gg, 2, none⟩ = some (.slice t.1 g.b.length t.2) ∧ gg < w'.heap.size) := ⟨_, rfl⟩
      have hSC : SC w5.drew := by rw [hSCd]; exact ⟨⟨s4, sf4, sl5⟩, ⟨k0, k1, k2, kl⟩⟩
      have HSC := Lib.hid (show SC w5.drew from hSC)
      have HSd := Lib.hid hSCd
      clear hSC hSCd
      refine region_heldT 8 SC (by kernel_rfl) (by decide) ?_
      refine HeadW.take 0 (v := pv gs) rfl (by kernel_rfl) (by kernel_rfl) (by kernel_rfl) (by decide) (by decide) (fun _ _ _ hL => seqB_ready hL.1) (by kernel_rfl) (by kernel_rfl) (fun _ _ _ h => h) HSC.out (.inl ⟨by kernel_rfl, by intro w hSw; rw [HSd.out] at hSw; obtain ⟨⟨e0, f0, l0⟩, ⟨e1, e2, e3, l1⟩⟩ := hSw; go_simp⟩) ?_
      simp only [Act.put, List.setIfInBounds_toArray]
      refine HeadW.take 1 (v := pv gs) rfl (by kernel_rfl) (by kernel_rfl) (by kernel_rfl) (by decide) (by decide) (fun _ _ _ hL => seqB_ready hL.1) (by kernel_rfl) (by kernel_rfl) (fun _ _ _ h => h) HSC.out (.inl ⟨by kernel_rfl, by intro w hSw; rw [HSd.out] at hSw; obtain ⟨⟨e0, f0, l0⟩, ⟨e1, e2, e3, l1⟩⟩ := hSw; go_simp⟩) ?_
      simp only [Act.put]
      refine HeadW.take 2 (v := pv gs) rfl (by kernel_rfl) (by kernel_rfl) (by kernel_rfl) (by decide) (by decide) (fun _ _ _ hL => seqB_ready hL.1) (by kernel_rfl) (by kernel_rfl) (fun _ _ _ h => h) HSC.out (.inl ⟨by kernel_rfl, by intro w hSw; rw [HSd.out] at hSw; obtain ⟨⟨e0, f0, l0⟩, ⟨e1, e2, e3, l1⟩⟩ := hSw; go_simp⟩) ?_
      simp only [Act.put]
      refine HeadW.take 3 (v := .pointer (some ⟨gs, 4, none⟩)) rfl (by kernel_rfl) (by kernel_rfl) (by kernel_rfl) (by decide) (by decide) (fun _ _ _ hL => seqB_ready hL.1) (by kernel_rfl) (by kernel_rfl) (fun _ _ _ h => h) HSC.out (.inl ⟨by kernel_rfl, by intro w hSw; rw [HSd.out] at hSw; obtain ⟨⟨e0, f0, l0⟩, ⟨e1, e2, e3, l1⟩⟩ := hSw; go_simp⟩) ?_
      simp only [Act.put]
      refine HeadW.take 4 (v := .slice l.AT st.told.length l.cT) rfl (by kernel_rfl) (by kernel_rfl) (by kernel_rfl) (by decide) (by decide) (fun _ _ _ hL => seqB_ready hL.1) (by kernel_rfl) (by kernel_rfl) (fun _ _ _ h => h) HSC.out (.inl ⟨by kernel_rfl, by intro w hSw; rw [HSd.out] at hSw; obtain ⟨⟨e0, f0, l0⟩, ⟨e1, e2, e3, l1⟩⟩ := hSw; go_simp⟩) ?_
      simp only [Act.put]
      refine HeadW.take 5 (v := .agg #[.int .i64 2, .int .i64 g.n, .slice t.1 g.b.length t.2]) rfl (by kernel_rfl) (by kernel_rfl) (by kernel_rfl) (by decide) (by decide) (fun _ _ _ hL => seqB_ready hL.1) (by kernel_rfl) (by kernel_rfl) (fun _ _ _ h => h) HSC.out (.inl ⟨by kernel_rfl, by intro w hSw; rw [HSd.out] at hSw; obtain ⟨⟨e0, f0, l0⟩, ⟨e1, e2, e3, l1⟩⟩ := hSw; go_simp⟩) ?_
      simp only [Act.put]
      clear s4 sf4 sl5 k0 k1 k2 kl
      refine headW_one 6 rfl (by decide) (by kernel_rfl) (by kernel_rfl) fun K hK => ?_
      go_simp
      obtain ⟨w6, hw6⟩ : ∃ w', w' = (w5.alloc (.cells #[.int .i64 2, .int .i64 g.n, .slice t.1 g.b.length t.2] 71)).drew := ⟨_, rfl⟩
      rw [← hw6]
      have hb56 : Below w5.heap.size w5 w6 := by rw [hw6]; exact ((Below.refl _ _).alloc (Nat.le_refl _) _).drew
      have hU6 : Blk w6 w5.heap.size 71 #[.int .i64 2, .int .i64 g.n, .slice t.1 g.b.length t.2] := by rw [hw6]; exact Blk.new w5 _ _
      have HS6 := Lib.hid (HS5.out.below hb56)
      have HG6 := Lib.hid (HG5.out.below hb56 HG5.out.lt)
      have HB6 := Lib.hid (HB5.out.only (S := fun _ => False) (Only.of_fresh hb56) fun _ _ h => h)
      have HR6 := Lib.hid (HR5.out.below hb56)
      have HU6 := Lib.hid hU6
      have HOw6 := Lib.hid (HOw5.out.trans (Only.of_fresh hb56))
      have hB6 : B ≤ w6.heap.size := by have := HOw6.out.size; omega
      have hSC6 : SC w6 := by rw [HSd.out]; exact ⟨⟨HS6.out.blk.cell 4, HS6.out.blk.frozen 4, HS6.out.blk.lt⟩, ⟨HG6.out.cell 0, HG6.out.cell 1, HG6.out.cell 2, HG6.out.lt⟩⟩
      refine hK.out _ _ hSC6 (fun hHeld => ?_)
      clear hK K hHeld hw6 hb56 hU6 hSC6 HSC
      refine headW_one 7 rfl (by decide) (by kernel_rfl) (by kernel_rfl) fun K hK => ?_
      refine wp_app (.tmp 81) (.tmp 83) eGot rfl rfl HS6.out.told (A' := some ⟨w5.heap.size, 0, none⟩) (m := 1) (c' := 1) (us := [.int .i64 2, .int .i64 g.n, .slice t.1 g.b.length t.2]) rfl (RV.of_blk HU6.out) rfl (by intro v hv; simp only [List.mem_cons, List.not_mem_nil, or_false] at hv; rcases hv with rfl | rfl | rfl <;> rfl) (by unfold maxLen; omega) (by omega) hB6 (by intro h; cases h) ?_
      intro A2 c2 w7 ho7 hg7 hA7
      have hO7 : Only (fun b => l.AT.map (·.block) = some b) w6 w7 := Only.of_grown hg7 fun k e => e
      have hS7 := HS6.out.blk.only hO7 (fun e => own_blk_ne2 HS6.out.told HS6.out.blk (by decide) e)
      have hG7 := HG6.out.only hO7 (fun e => by
        obtain ⟨h1, -, -⟩ := ownG_form HS.out.told _ e
        have h2 := HggL.out
        have h3 := (Own.row HS.out.told gg e).2
        omega)
      have hSC7 : SC w7 := by rw [HSd.out]; exact ⟨⟨hS7.cell 4, hS7.frozen 4, hS7.lt⟩, ⟨hG7.cell 0, hG7.cell 1, hG7.cell 2, hG7.lt⟩⟩
      refine hK.out _ _ hSC7 (fun hHeld => ?_)
      obtain ⟨hSn, hOn⟩ := HS6.out.tellM HB6.out j a (by rw [show gotCells g t = [.int .i64 2, .int .i64 g.n, .slice t.1 g.b.length t.2] from by unfold gotCells; rw [Hgk.out, hk2]]; exact ho7) hg7
      have hRn := HR6.out.only hOn (fun b cs hb e => by
        rcases e with e | e
        · rw [e] at hb; exact absurd (blkT_eq hb.ty HS6.out.blk.ty) (by decide)
        · obtain ⟨h1, -, -⟩ := ownG_form HS6.out.told b e
          obtain ⟨cs2, h2⟩ := own_ty HS6.out.told h1
          exact absurd (blkT_eq hb.ty h2.ty) (by decide)) (fun b hb e => by
        rcases e with e | e
        · rw [e] at hb; exact absurd (blkT_eq hb HS6.out.blk.ty) (by decide)
        · obtain ⟨h1, -, -⟩ := ownG_form HS6.out.told b e
          obtain ⟨cs2, h2⟩ := own_ty HS6.out.told h1
          exact absurd (blkT_eq hb h2.ty) (by decide))
      have hgr : Grew w l.AT A2 := fun b e => by
        rcases hA7 with h | h
        · rw [h] at e; exact .inl e
        · rw [h] at e; injection e with e; have := HOw6.out.size; exact .inr (by omega)
      have Hpost := Lib.hid (show CallPost B gs AC nC cC st ms ks TA l c w (.returned (.tuple #[])) (w7.setCell ⟨gs, 4, none⟩ (.slice A2 (st.told.length + 1) c2)) from by
        unfold CallPost
        rw [Hca.out, Hcr.out]
        have hj := Hj.out
        refine ⟨rfl, m, A2, c2, t, by rw [← hj]; exact Hm.out, by rw [← hj]; exact hSn, hgr, Hfr5.out, by rw [← hj]; exact hRn, ?_⟩
        exact (HOw6.out.mono fun _ _ e => .inr (.inl e)).trans (hOn.mono fun _ _ e => e.elim .inl fun e => .inr (.inr e)))
      have t4 : w7.cell? ⟨gs, 4, none⟩ = some (.slice l.AT st.told.length l.cT) := hS7.cell 4
      have tf4 := hS7.frozen 4
      have tl7 := hS7.lt
      clear hK K hHeld ho7 hg7 hA7 hO7 hS7 hG7 hSC7 hSn hOn hRn hgr HSd
      refine fun hInv => ⟨by kernel_rfl, ?_⟩
      clear hInv
      simp only [List.drop_succ_cons, List.drop_zero]
      clear SC
      go_wp2_with fail
      go_end0
      exact Hpost.out
  by_cases hk3 : c.kind = 3
  · as_aux_lemma =>
    have hc := rBool_any m.g m.c r.2 m.A r.1 w3 HRd3.out.rd Hrl.out
    go_wp2_with fail
    refine hc.mono ?_
    clear hc
    cases hn : rBoolL r.1 r.2 with
    | error f =>
      rintro e w4 ⟨rfl, ⟨aa, hrd4⟩, ho4⟩
      have hcr : callR c r.1 r.2 = some (.error f) := by unfold callR; simp [hk3, hn, Except.map]
      exact ⟨rfl, post_fell HS3.out HR3.out HRd3.out Hca.out Hm.out Hr.out Hj.out Hjd.out Hb3.out hcr (rBoolE hn) hrd4 ho4⟩
    | ok bb =>
      rintro e w4 ⟨rfl, hrd4, ho4⟩
      obtain ⟨hG4, hT4⟩ := call_keeps HG3.out HRd3.out ho4 hrd4
      cases bb with
      | true =>
        have hcr : callR c r.1 r.2 = some (.ok (⟨c.kind, 1, []⟩, r.2 + 1)) := by unfold callR; simp [hk3, hn, Except.map]
        have hmid := CallMid.num 1 (r.2 + 1) hG4 hT4 ho4 hcr
        have g1 : w4.cell? ⟨gg, 1, none⟩ = some (.int .i64 0) := hG4.cell 1
        have g2 : w4.cell? ⟨gg, 2, none⟩ = some (.slice none 0 0) := hG4.cell 2
        have gf := hG4.frozen 1
        have gf2 := hG4.frozen 2
        have gl := hG4.lt
        obtain ⟨w5, hw5⟩ : ∃ w', w' = w4.setCell ⟨gg, 1, none⟩ (.int .i64 1) := ⟨_, rfl⟩
        have hmid := show CallMid _ c m r gg w5 from by rw [hw5]; exact hmid
        have Hw5 := Lib.hid hw5
        obtain ⟨g, a, t, hcr, hgk, hG5, hB5, hfr5, hT5, hO5⟩ := hmid.out
        have Hfr5 := Lib.hid (show ∀ b o, t.1 = some ⟨b, o, none⟩ → w.heap.size ≤ b from fun b o e => Nat.le_trans Hb3.out.size (hfr5 b o e))
        rw [hk3] at hG5
        have hOw5 : Only (fun b => b = m.g) w w5 := (Only.of_fresh Hb3.out).more hO5 fun b hb e => e.resolve_right (by have := HggL.out; omega)
        have hS5 := HS.out.only hOw5 (fun b ty hb ht e => by rw [e] at hb; exact ht (blkT_eq hb HRd0.out.rd.blk.ty))
        have HS5 := Lib.hid hS5
        have HR5 := Lib.hid ((HR.out.go HS.out.sole Hm.out Hjd.out (List.getElem?_eq_some_iff.1 Hr.out).1 hOw5 hT5).1 rfl rfl (by rw [List.getD_eq_getElem?_getD, Hr.out]; rfl) g)
        have HB5 := Lib.hid hB5
        have Hcr := Lib.hid hcr
        have Hgk := Lib.hid hgk
        have HOw5 := Lib.hid hOw5
        have s4 : w5.cell? ⟨gs, 4, none⟩ = some (.slice l.AT st.told.length l.cT) := hS5.blk.cell 4
        have sf4 := hS5.blk.frozen 4
        have sl5 := hS5.blk.lt
        have k0 : w5.cell? ⟨gg, 0, none⟩ = some (.int .i64 3) := hG5.cell 0
        have k1 : w5.cell? ⟨gg, 1, none⟩ = some (.int .i64 g.n) := hG5.cell 1
        have k2 : w5.cell? ⟨gg, 2, none⟩ = some (.slice t.1 g.b.length t.2) := hG5.cell 2
        have kl := hG5.lt
        have HG5 := Lib.hid hG5
        clear hw5 hmid hcr hgk hG5 hB5 hfr5 hT5 hO5 hOw5 hS5 hG4 hT4 hrd4 ho4
        go_upto_region 23 with (fail)
        rw [← Hw5.out]
        clear Hw5 g1 g2 gf gf2 gl
        obtain ⟨SC, hSCd⟩ : ∃ S : World → Prop, S = fun w' => (w'.cell? ⟨gs, 4, none⟩ = some (.slice l.AT st.told.length l.cT) ∧ w'.frozen? ⟨gs, 4, none⟩ = false ∧ gs < w'.heap.size) ∧ (w'.cell? ⟨gg, 0, none⟩ = some (.int .i64 3) ∧ w'.cell? ⟨gg, 1, none⟩ = some (.int .i64 g.n) ∧ w'.cell? ⟨gg, 2, none⟩ = some (.slice t.1 g.b.length t.2) ∧ gg < w'.heap.size) := ⟨_, rfl⟩
        have hSC : SC w5.drew := by rw [hSCd]; exact ⟨⟨s4, sf4, sl5⟩, ⟨k0, k1, k2, kl⟩⟩
        have HSC := Lib.hid (show SC w5.drew from hSC)
        have HSd := Lib.hid hSCd
        clear hSC hSCd
        refine region_heldT 8 SC (by kernel_rfl) (by decide) ?_
        refine HeadW.take 0 (v := pv gs) rfl (by kernel_rfl) (by kernel_rfl) (by kernel_rfl) (by decide) (by decide) (fun _ _ _ hL => seqB_ready hL.1) (by kernel_rfl) (by kernel_rfl) (fun _ _ _ h => h) HSC.out (.inl ⟨by kernel_rfl, by intro w hSw; rw [HSd.out] at hSw; obtain ⟨⟨e0, f0, l0⟩, ⟨e1, e2, e3, l1⟩⟩ := hSw; go_simp⟩) ?_
        simp only [Act.put, List.setIfInBounds_toArray]
        refine HeadW.take 1 (v := pv gs) rfl (by kernel_rfl) (by kernel_rfl) (by kernel_rfl) (by decide) (by decide) (fun _ _ _ hL => seqB_ready hL.1) (by kernel_rfl) (by kernel_rfl) (fun _ _ _ h => h) HSC.out (.inl ⟨by kernel_rfl, by intro w hSw; rw [HSd.out] at hSw; obtain ⟨⟨e0, f0, l0⟩, ⟨e1, e2, e3, l1⟩⟩ := hSw; go_simp⟩) ?_
        simp only [Act.put]
        refine HeadW.take 2 (v := pv gs) rfl (by kernel_rfl) (by kernel_rfl) (by kernel_rfl) (by decide) (by decide) (fun _ _ _ hL => seqB_ready hL.1) (by kernel_rfl) (by kernel_rfl) (fun _ _ _ h => h) HSC.out (.inl ⟨by kernel_rfl, by intro w hSw; rw [HSd.out] at hSw; obtain ⟨⟨e0, f0, l0⟩, ⟨e1, e2, e3, l1⟩⟩ := hSw; go_simp⟩) ?_
        simp only [Act.put]
        refine HeadW.take 3 (v := .pointer (some ⟨gs, 4, none⟩)) rfl (by kernel_rfl) (by kernel_rfl) (by kernel_rfl) (by decide) (by decide) (fun _ _ _ hL => seqB_ready hL.1) (by kernel_rfl) (by kernel_rfl) (fun _ _ _ h => h) HSC.out (.inl ⟨by kernel_rfl, by intro w hSw; rw [HSd.out] at hSw; obtain ⟨⟨e0, f0, l0⟩, ⟨e1, e2, e3, l1⟩⟩ := hSw; go_simp⟩) ?_
        simp only [Act.put]
        refine HeadW.take 4 (v := .slice l.AT st.told.length l.cT) rfl (by kernel_rfl) (by kernel_rfl) (by kernel_rfl) (by decide) (by decide) (fun _ _ _ hL => seqB_ready hL.1) (by kernel_rfl) (by kernel_rfl) (fun _ _ _ h => h) HSC.out (.inl ⟨by kernel_rfl, by intro w hSw; rw [HSd.out] at hSw; obtain ⟨⟨e0, f0, l0⟩, ⟨e1, e2, e3, l1⟩⟩ := hSw; go_simp⟩) ?_
        simp only [Act.put]
        refine HeadW.take 5 (v := .agg #[.int .i64 3, .int .i64 g.n, .slice t.1 g.b.length t.2]) rfl (by kernel_rfl) (by kernel_rfl) (by kernel_rfl) (by decide) (by decide) (fun _ _ _ hL => seqB_ready hL.1) (by kernel_rfl) (by kernel_rfl) (fun _ _ _ h => h) HSC.out (.inl ⟨by kernel_rfl, by intro w hSw; rw [HSd.out] at hSw; obtain ⟨⟨e0, f0, l0⟩, ⟨e1, e2, e3, l1⟩⟩ := hSw; go_simp⟩) ?_
        simp only [Act.put]
        clear s4 sf4 sl5 k0 k1 k2 kl
        refine headW_one 6 rfl (by decide) (by kernel_rfl) (by kernel_rfl) fun K hK => ?_
        go_simp
        obtain ⟨w6, hw6⟩ : ∃ w', w' = (w5.alloc (.cells #[.int .i64 3, .int .i64 g.n, .slice t.1 g.b.length t.2] 71)).drew := ⟨_, rfl⟩
        rw [← hw6]
        have hb56 : Below w5.heap.size w5 w6 := by rw [hw6]; exact ((Below.refl _ _).alloc (Nat.le_refl _) _).drew
        have hU6 : Blk w6 w5.heap.size 71 #[.int .i64 3, .int .i64 g.n, .slice t.1 g.b.length t.2] := by rw [hw6]; exact Blk.new w5 _ _
        have HS6 := Lib.hid (HS5.out.below hb56)
        have HG6 := Lib.hid (HG5.out.below hb56 HG5.out.lt)
        have HB6 := Lib.hid (HB5.out.only (S := fun _ => False) (Only.of_fresh hb56) fun _ _ h => h)
        have HR6 := Lib.hid (HR5.out.below hb56)
        have HU6 := Lib.hid hU6
        have HOw6 := Lib.hid (HOw5.out.trans (Only.of_fresh hb56))
        have hB6 : B ≤ w6.heap.size := by have := HOw6.out.size; omega
        have hSC6 : SC w6 := by rw [HSd.out]; exact ⟨⟨HS6.out.blk.cell 4, HS6.out.blk.frozen 4, HS6.out.blk.lt⟩, ⟨HG6.out.cell 0, HG6.out.cell 1, HG6.out.cell 2, HG6.out.lt⟩⟩
        refine hK.out _ _ hSC6 (fun hHeld => ?_)
        clear hK K hHeld hw6 hb56 hU6 hSC6 HSC
        refine headW_one 7 rfl (by decide) (by kernel_rfl) (by kernel_rfl) fun K hK => ?_
        refine wp_app (.tmp 81) (.tmp 83) eGot rfl rfl HS6.out.told (A' := some ⟨w5.heap.size, 0, none⟩) (m := 1) (c' := 1) (us := [.int .i64 3, .int .i64 g.n, .slice t.1 g.b.length t.2]) rfl (RV.of_blk HU6.out) rfl (by intro v hv; simp only [List.mem_cons, List.not_mem_nil, or_false] at hv; rcases hv with rfl | rfl | rfl <;> rfl) (by unfold maxLen; omega) (by omega) hB6 (by intro h; cases h) ?_
        intro A2 c2 w7 ho7 hg7 hA7
        have hO7 : Only (fun b => l.AT.map (·.block) = some b) w6 w7 := Only.of_grown hg7 fun k e => e
        have hS7 := HS6.out.blk.only hO7 (fun e => own_blk_ne2 HS6.out.told HS6.out.blk (by decide) e)
        have hG7 := HG6.out.only hO7 (fun e => by
          obtain ⟨h1, -, -⟩ := ownG_form HS.out.told _ e
          have h2 := HggL.out
          have h3 := (Own.row HS.out.told gg e).2
          omega)
        have hSC7 : SC w7 := by rw [HSd.out]; exact ⟨⟨hS7.cell 4, hS7.frozen 4, hS7.lt⟩, ⟨hG7.cell 0, hG7.cell 1, hG7.cell 2, hG7.lt⟩⟩
        refine hK.out _ _ hSC7 (fun hHeld => ?_)
        obtain ⟨hSn, hOn⟩ := HS6.out.tellM HB6.out j a (by rw [show gotCells g t = [.int .i64 3, .int .i64 g.n, .slice t.1 g.b.length t.2] from by unfold gotCells; rw [Hgk.out, hk3]]; exact ho7) hg7
        have hRn := HR6.out.only hOn (fun b cs hb e => by
          rcases e with e | e
          · rw [e] at hb; exact absurd (blkT_eq hb.ty HS6.out.blk.ty) (by decide)
          · obtain ⟨h1, -, -⟩ := ownG_form HS6.out.told b e
            obtain ⟨cs2, h2⟩ := own_ty HS6.out.told h1
            exact absurd (blkT_eq hb.ty h2.ty) (by decide)) (fun b hb e => by
          rcases e with e | e
          · rw [e] at hb; exact absurd (blkT_eq hb HS6.out.blk.ty) (by decide)
          · obtain ⟨h1, -, -⟩ := ownG_form HS6.out.told b e
            obtain ⟨cs2, h2⟩ := own_ty HS6.out.told h1
            exact absurd (blkT_eq hb h2.ty) (by decide))
        have hgr : Grew w l.AT A2 := fun b e => by
          rcases hA7 with h | h
          · rw [h] at e; exact .inl e
          · rw [h] at e; injection e with e; have := HOw6.out.size; exact .inr (by omega)
        have Hpost := Lib.hid (show CallPost B gs AC nC cC st ms ks TA l c w (.returned (.tuple #[])) (w7.setCell ⟨gs, 4, none⟩ (.slice A2 (st.told.length + 1) c2)) from by
          unfold CallPost
          rw [Hca.out, Hcr.out]
          have hj := Hj.out
          refine ⟨rfl, m, A2, c2, t, by rw [← hj]; exact Hm.out, by rw [← hj]; exact hSn, hgr, Hfr5.out, by rw [← hj]; exact hRn, ?_⟩
          exact (HOw6.out.mono fun _ _ e => .inr (.inl e)).trans (hOn.mono fun _ _ e => e.elim .inl fun e => .inr (.inr e)))
        have t4 : w7.cell? ⟨gs, 4, none⟩ = some (.slice l.AT st.told.length l.cT) := hS7.cell 4
        have tf4 := hS7.frozen 4
        have tl7 := hS7.lt
        clear hK K hHeld ho7 hg7 hA7 hO7 hS7 hG7 hSC7 hSn hOn hRn hgr HSd
        refine fun hInv => ⟨by kernel_rfl, ?_⟩
        clear hInv
        simp only [List.drop_succ_cons, List.drop_zero]
        clear SC
        go_wp2_with fail
        go_end0
        exact Hpost.out
      | false =>
        have hcr : callR c r.1 r.2 = some (.ok (⟨c.kind, 0, []⟩, r.2 + 1)) := by unfold callR; simp [hk3, hn, Except.map]
        have hmid := CallMid.nil (r.2 + 1) hG4 hT4 ho4 hcr
        obtain ⟨w5, hw5⟩ : ∃ w', w' = w4 := ⟨_, rfl⟩
        have hmid := show CallMid _ c m r gg w5 from by rw [hw5]; exact hmid
        have Hw5 := Lib.hid hw5
        obtain ⟨g, a, t, hcr, hgk, hG5, hB5, hfr5, hT5, hO5⟩ := hmid.out
        have Hfr5 := Lib.hid (show ∀ b o, t.1 = some ⟨b, o, none⟩ → w.heap.size ≤ b from fun b o e => Nat.le_trans Hb3.out.size (hfr5 b o e))
        rw [hk3] at hG5
        have hOw5 : Only (fun b => b = m.g) w w5 := (Only.of_fresh Hb3.out).more hO5 fun b hb e => e.resolve_right (by have := HggL.out; omega)
        have hS5 := HS.out.only hOw5 (fun b ty hb ht e => by rw [e] at hb; exact ht (blkT_eq hb HRd0.out.rd.blk.ty))
        have HS5 := Lib.hid hS5
        have HR5 := Lib.hid ((HR.out.go HS.out.sole Hm.out Hjd.out (List.getElem?_eq_some_iff.1 Hr.out).1 hOw5 hT5).1 rfl rfl (by rw [List.getD_eq_getElem?_getD, Hr.out]; rfl) g)
        have HB5 := Lib.hid hB5
        have Hcr := Lib.hid hcr
        have Hgk := Lib.hid hgk
        have HOw5 := Lib.hid hOw5
        have s4 : w5.cell? ⟨gs, 4, none⟩ = some (.slice l.AT st.told.length l.cT) := hS5.blk.cell 4
        have sf4 := hS5.blk.frozen 4
        have sl5 := hS5.blk.lt
        have k0 : w5.cell? ⟨gg, 0, none⟩ = some (.int .i64 3) := hG5.cell 0
        have k1 : w5.cell? ⟨gg, 1, none⟩ = some (.int .i64 g.n) := hG5.cell 1
        have k2 : w5.cell? ⟨gg, 2, none⟩ = some (.slice t.1 g.b.length t.2) := hG5.cell 2
        have kl := hG5.lt
        have HG5 := Lib.hid hG5
        clear hw5 hmid hcr hgk hG5 hB5 hfr5 hT5 hO5 hOw5 hS5 hG4 hT4 hrd4 ho4
        go_upto_region 23 with (fail)
        rw [← Hw5.out]
        clear Hw5 
        obtain ⟨SC, hSCd⟩ : ∃ S : World → Prop, S = fun w' => (w'.cell? ⟨gs, 4, none⟩ = some (.slice l.AT st.told.length l.cT) ∧ w'.frozen? ⟨gs, 4, none⟩ = false ∧ gs < w'.heap.size) ∧ (w'.cell? ⟨gg, 0, none⟩ = some (.int .i64 3) ∧ w'.cell? ⟨gg, 1, none⟩ = some (.int .i64 g.n) ∧ w'.cell? ⟨gg, 2, none⟩ = some (.slice t.1 g.b.length t.2) ∧ gg < w'.heap.size) := ⟨_, rfl⟩
        have hSC : SC w5.drew := by rw [hSCd]; exact ⟨⟨s4, sf4, sl5⟩, ⟨k0, k1, k2, kl⟩⟩
        have HSC := Lib.hid (show SC w5.drew from hSC)
        have HSd := Lib.hid hSCd
        clear hSC hSCd
        refine region_heldT 8 SC (by kernel_rfl) (by decide) ?_
        refine HeadW.take 0 (v := pv gs) rfl (by kernel_rfl) (by kernel_rfl) (by kernel_rfl) (by decide) (by decide) (fun _ _ _ hL => seqB_ready hL.1) (by kernel_rfl) (by kernel_rfl) (fun _ _ _ h => h) HSC.out (.inl ⟨by kernel_rfl, by intro w hSw; rw [HSd.out] at hSw; obtain ⟨⟨e0, f0, l0⟩, ⟨e1, e2, e3, l1⟩⟩ := hSw; go_simp⟩) ?_
        simp only [Act.put, List.setIfInBounds_toArray]
        refine HeadW.take 1 (v := pv gs) rfl (by kernel_rfl) (by kernel_rfl) (by kernel_rfl) (by decide) (by decide) (fun _ _ _ hL => seqB_ready hL.1) (by kernel_rfl) (by kernel_rfl) (fun _ _ _ h => h) HSC.out (.inl ⟨by kernel_rfl, by intro w hSw; rw [HSd.out] at hSw; obtain ⟨⟨e0, f0, l0⟩, ⟨e1, e2, e3, l1⟩⟩ := hSw; go_simp⟩) ?_
        simp only [Act.put]
        refine HeadW.take 2 (v := pv gs) rfl (by kernel_rfl) (by kernel_rfl) (by kernel_rfl) (by decide) (by decide) (fun _ _ _ hL => seqB_ready hL.1) (by kernel_rfl) (by kernel_rfl) (fun _ _ _ h => h) HSC.out (.inl ⟨by kernel_rfl, by intro w hSw; rw [HSd.out] at hSw; obtain ⟨⟨e0, f0, l0⟩, ⟨e1, e2, e3, l1⟩⟩ := hSw; go_simp⟩) ?_
        simp only [Act.put]
        refine HeadW.take 3 (v := .pointer (some ⟨gs, 4, none⟩)) rfl (by kernel_rfl) (by kernel_rfl) (by kernel_rfl) (by decide) (by decide) (fun _ _ _ hL => seqB_ready hL.1) (by kernel_rfl) (by kernel_rfl) (fun _ _ _ h => h) HSC.out (.inl ⟨by kernel_rfl, by intro w hSw; rw [HSd.out] at hSw; obtain ⟨⟨e0, f0, l0⟩, ⟨e1, e2, e3, l1⟩⟩ := hSw; go_simp⟩) ?_
        simp only [Act.put]
        refine HeadW.take 4 (v := .slice l.AT st.told.length l.cT) rfl (by kernel_rfl) (by kernel_rfl) (by kernel_rfl) (by decide) (by decide) (fun _ _ _ hL => seqB_ready hL.1) (by kernel_rfl) (by kernel_rfl) (fun _ _ _ h => h) HSC.out (.inl ⟨by kernel_rfl, by intro w hSw; rw [HSd.out] at hSw; obtain ⟨⟨e0, f0, l0⟩, ⟨e1, e2, e3, l1⟩⟩ := hSw; go_simp⟩) ?_
        simp only [Act.put]
        refine HeadW.take 5 (v := .agg #[.int .i64 3, .int .i64 g.n, .slice t.1 g.b.length t.2]) rfl (by kernel_rfl) (by kernel_rfl) (by kernel_rfl) (by decide) (by decide) (fun _ _ _ hL => seqB_ready hL.1) (by kernel_rfl) (by kernel_rfl) (fun _ _ _ h => h) HSC.out (.inl ⟨by kernel_rfl, by intro w hSw; rw [HSd.out] at hSw; obtain ⟨⟨e0, f0, l0⟩, ⟨e1, e2, e3, l1⟩⟩ := hSw; go_simp⟩) ?_
        simp only [Act.put]
        clear s4 sf4 sl5 k0 k1 k2 kl
        refine headW_one 6 rfl (by decide) (by kernel_rfl) (by kernel_rfl) fun K hK => ?_
        go_simp
        obtain ⟨w6, hw6⟩ : ∃ w', w' = (w5.alloc (.cells #[.int .i64 3, .int .i64 g.n, .slice t.1 g.b.length t.2] 71)).drew := ⟨_, rfl⟩
        rw [← hw6]
        have hb56 : Below w5.heap.size w5 w6 := by rw [hw6]; exact ((Below.refl _ _).alloc (Nat.le_refl _) _).drew
        have hU6 : Blk w6 w5.heap.size 71 #[.int .i64 3, .int .i64 g.n, .slice t.1 g.b.length t.2] := by rw [hw6]; exact Blk.new w5 _ _
        have HS6 := Lib.hid (HS5.out.below hb56)
        have HG6 := Lib.hid (HG5.out.below hb56 HG5.out.lt)
        have HB6 := Lib.hid (HB5.out.only (S := fun _ => False) (Only.of_fresh hb56) fun _ _ h => h)
        have HR6 := Lib.hid (HR5.out.below hb56)
        have HU6 := Lib.hid hU6
        have HOw6 := Lib.hid (HOw5.out.trans (Only.of_fresh hb56))
        have hB6 : B ≤ w6.heap.size := by have := HOw6.out.size; omega
        have hSC6 : SC w6 := by rw [HSd.out]; exact ⟨⟨HS6.out.blk.cell 4, HS6.out.blk.frozen 4, HS6.out.blk.lt⟩, ⟨HG6.out.cell 0, HG6.out.cell 1, HG6.out.cell 2, HG6.out.lt⟩⟩
        refine hK.out _ _ hSC6 (fun hHeld => ?_)
        clear hK K hHeld hw6 hb56 hU6 hSC6 HSC
        refine headW_one 7 rfl (by decide) (by kernel_rfl) (by kernel_rfl) fun K hK => ?_
        refine wp_app (.tmp 81) (.tmp 83) eGot rfl rfl HS6.out.told (A' := some ⟨w5.heap.size, 0, none⟩) (m := 1) (c' := 1) (us := [.int .i64 3, .int .i64 g.n, .slice t.1 g.b.length t.2]) rfl (RV.of_blk HU6.out) rfl (by intro v hv; simp only [List.mem_cons, List.not_mem_nil, or_false] at hv; rcases hv with rfl | rfl | rfl <;> rfl) (by unfold maxLen; omega) (by omega) hB6 (by intro h; cases h) ?_
        intro A2 c2 w7 ho7 hg7 hA7
        have hO7 : Only (fun b => l.AT.map (·.block) = some b) w6 w7 := Only.of_grown hg7 fun k e => e
        have hS7 := HS6.out.blk.only hO7 (fun e => own_blk_ne2 HS6.out.told HS6.out.blk (by decide) e)
        have hG7 := HG6.out.only hO7 (fun e => by
          obtain ⟨h1, -, -⟩ := ownG_form HS.out.told _ e
          have h2 := HggL.out
          have h3 := (Own.row HS.out.told gg e).2
          omega)
        have hSC7 : SC w7 := by rw [HSd.out]; exact ⟨⟨hS7.cell 4, hS7.frozen 4, hS7.lt⟩, ⟨hG7.cell 0, hG7.cell 1, hG7.cell 2, hG7.lt⟩⟩
        refine hK.out _ _ hSC7 (fun hHeld => ?_)
        obtain ⟨hSn, hOn⟩ := HS6.out.tellM HB6.out j a (by rw [show gotCells g t = [.int .i64 3, .int .i64 g.n, .slice t.1 g.b.length t.2] from by unfold gotCells; rw [Hgk.out, hk3]]; exact ho7) hg7
        have hRn := HR6.out.only hOn (fun b cs hb e => by
          rcases e with e | e
          · rw [e] at hb; exact absurd (blkT_eq hb.ty HS6.out.blk.ty) (by decide)
          · obtain ⟨h1, -, -⟩ := ownG_form HS6.out.told b e
            obtain ⟨cs2, h2⟩ := own_ty HS6.out.told h1
            exact absurd (blkT_eq hb.ty h2.ty) (by decide)) (fun b hb e => by
          rcases e with e | e
          · rw [e] at hb; exact absurd (blkT_eq hb HS6.out.blk.ty) (by decide)
          · obtain ⟨h1, -, -⟩ := ownG_form HS6.out.told b e
            obtain ⟨cs2, h2⟩ := own_ty HS6.out.told h1
            exact absurd (blkT_eq hb h2.ty) (by decide))
        have hgr : Grew w l.AT A2 := fun b e => by
          rcases hA7 with h | h
          · rw [h] at e; exact .inl e
          · rw [h] at e; injection e with e; have := HOw6.out.size; exact .inr (by omega)
        have Hpost := Lib.hid (show CallPost B gs AC nC cC st ms ks TA l c w (.returned (.tuple #[])) (w7.setCell ⟨gs, 4, none⟩ (.slice A2 (st.told.length + 1) c2)) from by
          unfold CallPost
          rw [Hca.out, Hcr.out]
          have hj := Hj.out
          refine ⟨rfl, m, A2, c2, t, by rw [← hj]; exact Hm.out, by rw [← hj]; exact hSn, hgr, Hfr5.out, by rw [← hj]; exact hRn, ?_⟩
          exact (HOw6.out.mono fun _ _ e => .inr (.inl e)).trans (hOn.mono fun _ _ e => e.elim .inl fun e => .inr (.inr e)))
        have t4 : w7.cell? ⟨gs, 4, none⟩ = some (.slice l.AT st.told.length l.cT) := hS7.cell 4
        have tf4 := hS7.frozen 4
        have tl7 := hS7.lt
        clear hK K hHeld ho7 hg7 hA7 hO7 hS7 hG7 hSC7 hSn hOn hRn hgr HSd
        refine fun hInv => ⟨by kernel_rfl, ?_⟩
        clear hInv
        simp only [List.drop_succ_cons, List.drop_zero]
        clear SC
        go_wp2_with fail
        go_end0
        exact Hpost.out
  by_cases hk4 : c.kind = 4
  · as_aux_lemma =>
    have hc := rBytes_any m.g m.c r.2 m.A r.1 w3 HRd3.out.rd Hrl.out
    go_wp2_with fail
    refine hc.mono ?_
    clear hc
    cases hn : rBytesL r.1 r.2 with
    | error f =>
      rintro e w4 ⟨rfl, ⟨aa, hrd4⟩, ho4⟩
      have hcr : callR c r.1 r.2 = some (.error f) := by unfold callR; simp [hk4, hn, Except.map]
      exact ⟨rfl, post_fell HS3.out HR3.out HRd3.out Hca.out Hm.out Hr.out Hj.out Hjd.out Hb3.out hcr (rBytesE hn) hrd4 ho4⟩
    | ok uk =>
      obtain ⟨ys, a2⟩ := uk
      rintro e w4 ⟨A2, c2, rfl, hoB, hrd4, ho4⟩
      obtain ⟨hG4, hT4⟩ := call_keeps HG3.out HRd3.out ho4 hrd4
      have hcr : callR c r.1 r.2 = some (.ok (⟨c.kind, 0, ys⟩, a2)) := by unfold callR; simp [hk4, hn, Except.map]
      have hmid := CallMid.bytes A2 c2 ys (a2) hG4 hT4 ⟨RV.of_own hoB, fun b o e => by obtain ⟨cs, h⟩ := own_ty hoB e; exact h.ty⟩ (fun b o e => (Own.row hoB b (by rw [e]; rfl)).1) ho4 hcr
      have g1 : w4.cell? ⟨gg, 1, none⟩ = some (.int .i64 0) := hG4.cell 1
      have g2 : w4.cell? ⟨gg, 2, none⟩ = some (.slice none 0 0) := hG4.cell 2
      have gf := hG4.frozen 1
      have gf2 := hG4.frozen 2
      have gl := hG4.lt
      obtain ⟨w5, hw5⟩ : ∃ w', w' = w4.setCell ⟨gg, 2, none⟩ (.slice A2 ys.length c2) := ⟨_, rfl⟩
      have hmid := show CallMid _ c m r gg w5 from by rw [hw5]; exact hmid
      have Hw5 := Lib.hid hw5
      obtain ⟨g, a, t, hcr, hgk, hG5, hB5, hfr5, hT5, hO5⟩ := hmid.out
      have Hfr5 := Lib.hid (show ∀ b o, t.1 = some ⟨b, o, none⟩ → w.heap.size ≤ b from fun b o e => Nat.le_trans Hb3.out.size (hfr5 b o e))
      rw [hk4] at hG5
      have hOw5 : Only (fun b => b = m.g) w w5 := (Only.of_fresh Hb3.out).more hO5 fun b hb e => e.resolve_right (by have := HggL.out; omega)
      have hS5 := HS.out.only hOw5 (fun b ty hb ht e => by rw [e] at hb; exact ht (blkT_eq hb HRd0.out.rd.blk.ty))
      have HS5 := Lib.hid hS5
      have HR5 := Lib.hid ((HR.out.go HS.out.sole Hm.out Hjd.out (List.getElem?_eq_some_iff.1 Hr.out).1 hOw5 hT5).1 rfl rfl (by rw [List.getD_eq_getElem?_getD, Hr.out]; rfl) g)
      have HB5 := Lib.hid hB5
      have Hcr := Lib.hid hcr
      have Hgk := Lib.hid hgk
      have HOw5 := Lib.hid hOw5
      have s4 : w5.cell? ⟨gs, 4, none⟩ = some (.slice l.AT st.told.length l.cT) := hS5.blk.cell 4
      have sf4 := hS5.blk.frozen 4
      have sl5 := hS5.blk.lt
      have k0 : w5.cell? ⟨gg, 0, none⟩ = some (.int .i64 4) := hG5.cell 0
      have k1 : w5.cell? ⟨gg, 1, none⟩ = some (.int .i64 g.n) := hG5.cell 1
      have k2 : w5.cell? ⟨gg, 2, none⟩ = some (.slice t.1 g.b.length t.2) := hG5.cell 2
      have kl := hG5.lt
      have HG5 := Lib.hid hG5
      clear hw5 hmid hcr hgk hG5 hB5 hfr5 hT5 hO5 hOw5 hS5 hG4 hT4 hrd4 ho4 hoB
      go_upto_region 23 with (fail)
      rw [← Hw5.out]
      clear Hw5 g1 g2 gf gf2 gl
      obtain ⟨SC, hSCd⟩ : ∃ S : World → Prop, S = fun w' => (w'.cell? ⟨gs, 4, none⟩ = some (.slice l.AT st.told.length l.cT) ∧ w'.frozen? ⟨gs, 4, none⟩ = false ∧ gs < w'.heap.size) ∧ (w'.cell? ⟨gg, 0, none⟩ = some (.int .i64 4) ∧ w'.cell? ⟨gg, 1, none⟩ = some (.int .i64 g.n) ∧ w'.cell? ⟨gg, 2, none⟩ = some (.slice t.1 g.b.length t.2) ∧ gg < w'.heap.size) := ⟨_, rfl⟩
      have hSC : SC w5.drew := by rw [hSCd]; exact ⟨⟨s4, sf4, sl5⟩, ⟨k0, k1, k2, kl⟩⟩
      have HSC := Lib.hid (show SC w5.drew from hSC)
      have HSd := Lib.hid hSCd
      clear hSC hSCd
      refine region_heldT 8 SC (by kernel_rfl) (by decide) ?_
      refine HeadW.take 0 (v := pv gs) rfl (by kernel_rfl) (by kernel_rfl) (by kernel_rfl) (by decide) (by decide) (fun _ _ _ hL => seqB_ready hL.1) (by kernel_rfl) (by kernel_rfl) (fun _ _ _ h => h) HSC.out (.inl ⟨by kernel_rfl, by intro w hSw; rw [HSd.out] at hSw; obtain ⟨⟨e0, f0, l0⟩, ⟨e1, e2, e3, l1⟩⟩ := hSw; go_simp⟩) ?_
      simp only [Act.put, List.setIfInBounds_toArray]
      refine HeadW.take 1 (v := pv gs) rfl (by kernel_rfl) (by kernel_rfl) (by kernel_rfl) (by decide) (by decide) (fun _ _ _ hL => seqB_ready hL.1) (by kernel_rfl) (by kernel_rfl) (fun _ _ _ h => h) HSC.out (.inl ⟨by kernel_rfl, by intro w hSw; rw [HSd.out] at hSw; obtain ⟨⟨e0, f0, l0⟩, ⟨e1, e2, e3, l1⟩⟩ := hSw; go_simp⟩) ?_
      simp only [Act.put]
      refine HeadW.take 2 (v := pv gs) rfl (by kernel_rfl) (by kernel_rfl) (by kernel_rfl) (by decide) (by decide) (fun _ _ _ hL => seqB_ready hL.1) (by kernel_rfl) (by kernel_rfl) (fun _ _ _ h => h) HSC.out (.inl ⟨by kernel_rfl, by intro w hSw; rw [HSd.out] at hSw; obtain ⟨⟨e0, f0, l0⟩, ⟨e1, e2, e3, l1⟩⟩ := hSw; go_simp⟩) ?_
      simp only [Act.put]
      refine HeadW.take 3 (v := .pointer (some ⟨gs, 4, none⟩)) rfl (by kernel_rfl) (by kernel_rfl) (by kernel_rfl) (by decide) (by decide) (fun _ _ _ hL => seqB_ready hL.1) (by kernel_rfl) (by kernel_rfl) (fun _ _ _ h => h) HSC.out (.inl ⟨by kernel_rfl, by intro w hSw; rw [HSd.out] at hSw; obtain ⟨⟨e0, f0, l0⟩, ⟨e1, e2, e3, l1⟩⟩ := hSw; go_simp⟩) ?_
      simp only [Act.put]
      refine HeadW.take 4 (v := .slice l.AT st.told.length l.cT) rfl (by kernel_rfl) (by kernel_rfl) (by kernel_rfl) (by decide) (by decide) (fun _ _ _ hL => seqB_ready hL.1) (by kernel_rfl) (by kernel_rfl) (fun _ _ _ h => h) HSC.out (.inl ⟨by kernel_rfl, by intro w hSw; rw [HSd.out] at hSw; obtain ⟨⟨e0, f0, l0⟩, ⟨e1, e2, e3, l1⟩⟩ := hSw; go_simp⟩) ?_
      simp only [Act.put]
      refine HeadW.take 5 (v := .agg #[.int .i64 4, .int .i64 g.n, .slice t.1 g.b.length t.2]) rfl (by kernel_rfl) (by kernel_rfl) (by kernel_rfl) (by decide) (by decide) (fun _ _ _ hL => seqB_ready hL.1) (by kernel_rfl) (by kernel_rfl) (fun _ _ _ h => h) HSC.out (.inl ⟨by kernel_rfl, by intro w hSw; rw [HSd.out] at hSw; obtain ⟨⟨e0, f0, l0⟩, ⟨e1, e2, e3, l1⟩⟩ := hSw; go_simp⟩) ?_
      simp only [Act.put]
      clear s4 sf4 sl5 k0 k1 k2 kl
      refine headW_one 6 rfl (by decide) (by kernel_rfl) (by kernel_rfl) fun K hK => ?_
      go_simp
      obtain ⟨w6, hw6⟩ : ∃ w', w' = (w5.alloc (.cells #[.int .i64 4, .int .i64 g.n, .slice t.1 g.b.length t.2] 71)).drew := ⟨_, rfl⟩
      rw [← hw6]
      have hb56 : Below w5.heap.size w5 w6 := by rw [hw6]; exact ((Below.refl _ _).alloc (Nat.le_refl _) _).drew
      have hU6 : Blk w6 w5.heap.size 71 #[.int .i64 4, .int .i64 g.n, .slice t.1 g.b.length t.2] := by rw [hw6]; exact Blk.new w5 _ _
      have HS6 := Lib.hid (HS5.out.below hb56)
      have HG6 := Lib.hid (HG5.out.below hb56 HG5.out.lt)
      have HB6 := Lib.hid (HB5.out.only (S := fun _ => False) (Only.of_fresh hb56) fun _ _ h => h)
      have HR6 := Lib.hid (HR5.out.below hb56)
      have HU6 := Lib.hid hU6
      have HOw6 := Lib.hid (HOw5.out.trans (Only.of_fresh hb56))
      have hB6 : B ≤ w6.heap.size := by have := HOw6.out.size; omega
      have hSC6 : SC w6 := by rw [HSd.out]; exact ⟨⟨HS6.out.blk.cell 4, HS6.out.blk.frozen 4, HS6.out.blk.lt⟩, ⟨HG6.out.cell 0, HG6.out.cell 1, HG6.out.cell 2, HG6.out.lt⟩⟩
      refine hK.out _ _ hSC6 (fun hHeld => ?_)
      clear hK K hHeld hw6 hb56 hU6 hSC6 HSC
      refine headW_one 7 rfl (by decide) (by kernel_rfl) (by kernel_rfl) fun K hK => ?_
      refine wp_app (.tmp 81) (.tmp 83) eGot rfl rfl HS6.out.told (A' := some ⟨w5.heap.size, 0, none⟩) (m := 1) (c' := 1) (us := [.int .i64 4, .int .i64 g.n, .slice t.1 g.b.length t.2]) rfl (RV.of_blk HU6.out) rfl (by intro v hv; simp only [List.mem_cons, List.not_mem_nil, or_false] at hv; rcases hv with rfl | rfl | rfl <;> rfl) (by unfold maxLen; omega) (by omega) hB6 (by intro h; cases h) ?_
      intro A2 c2 w7 ho7 hg7 hA7
      have hO7 : Only (fun b => l.AT.map (·.block) = some b) w6 w7 := Only.of_grown hg7 fun k e => e
      have hS7 := HS6.out.blk.only hO7 (fun e => own_blk_ne2 HS6.out.told HS6.out.blk (by decide) e)
      have hG7 := HG6.out.only hO7 (fun e => by
        obtain ⟨h1, -, -⟩ := ownG_form HS.out.told _ e
        have h2 := HggL.out
        have h3 := (Own.row HS.out.told gg e).2
        omega)
      have hSC7 : SC w7 := by rw [HSd.out]; exact ⟨⟨hS7.cell 4, hS7.frozen 4, hS7.lt⟩, ⟨hG7.cell 0, hG7.cell 1, hG7.cell 2, hG7.lt⟩⟩
      refine hK.out _ _ hSC7 (fun hHeld => ?_)
      obtain ⟨hSn, hOn⟩ := HS6.out.tellM HB6.out j a (by rw [show gotCells g t = [.int .i64 4, .int .i64 g.n, .slice t.1 g.b.length t.2] from by unfold gotCells; rw [Hgk.out, hk4]]; exact ho7) hg7
      have hRn := HR6.out.only hOn (fun b cs hb e => by
        rcases e with e | e
        · rw [e] at hb; exact absurd (blkT_eq hb.ty HS6.out.blk.ty) (by decide)
        · obtain ⟨h1, -, -⟩ := ownG_form HS6.out.told b e
          obtain ⟨cs2, h2⟩ := own_ty HS6.out.told h1
          exact absurd (blkT_eq hb.ty h2.ty) (by decide)) (fun b hb e => by
        rcases e with e | e
        · rw [e] at hb; exact absurd (blkT_eq hb HS6.out.blk.ty) (by decide)
        · obtain ⟨h1, -, -⟩ := ownG_form HS6.out.told b e
          obtain ⟨cs2, h2⟩ := own_ty HS6.out.told h1
          exact absurd (blkT_eq hb h2.ty) (by decide))
      have hgr : Grew w l.AT A2 := fun b e => by
        rcases hA7 with h | h
        · rw [h] at e; exact .inl e
        · rw [h] at e; injection e with e; have := HOw6.out.size; exact .inr (by omega)
      have Hpost := Lib.hid (show CallPost B gs AC nC cC st ms ks TA l c w (.returned (.tuple #[])) (w7.setCell ⟨gs, 4, none⟩ (.slice A2 (st.told.length + 1) c2)) from by
        unfold CallPost
        rw [Hca.out, Hcr.out]
        have hj := Hj.out
        refine ⟨rfl, m, A2, c2, t, by rw [← hj]; exact Hm.out, by rw [← hj]; exact hSn, hgr, Hfr5.out, by rw [← hj]; exact hRn, ?_⟩
        exact (HOw6.out.mono fun _ _ e => .inr (.inl e)).trans (hOn.mono fun _ _ e => e.elim .inl fun e => .inr (.inr e)))
      have t4 : w7.cell? ⟨gs, 4, none⟩ = some (.slice l.AT st.told.length l.cT) := hS7.cell 4
      have tf4 := hS7.frozen 4
      have tl7 := hS7.lt
      clear hK K hHeld ho7 hg7 hA7 hO7 hS7 hG7 hSC7 hSn hOn hRn hgr HSd
      refine fun hInv => ⟨by kernel_rfl, ?_⟩
      clear hInv
      simp only [List.drop_succ_cons, List.drop_zero]
      clear SC
      go_wp2_with fail
      go_end0
      exact Hpost.out
  by_cases hk5 : c.kind = 5
  · as_aux_lemma =>
    have hc := rText_any m.g m.c r.2 m.A r.1 w3 HRd3.out.rd Hrl.out
    go_wp2_with fail
    refine hc.mono ?_
    clear hc
    cases hn : rBytesL r.1 r.2 with
    | error f =>
      rintro e w4 ⟨rfl, ⟨aa, hrd4⟩, ho4⟩
      have hcr : callR c r.1 r.2 = some (.error f) := by unfold callR; simp [hk5, hn, Except.map]
      exact ⟨rfl, post_fell HS3.out HR3.out HRd3.out Hca.out Hm.out Hr.out Hj.out Hjd.out Hb3.out hcr (rBytesE hn) hrd4 ho4⟩
    | ok uk =>
      obtain ⟨ys, a2⟩ := uk
      rintro e w4 ⟨rfl, hrd4, ho4⟩
      obtain ⟨hG4, hT4⟩ := call_keeps HG3.out HRd3.out ho4 hrd4
      have hcr : callR c r.1 r.2 = some (.ok (⟨c.kind, 0, ys⟩, a2)) := by unfold callR; simp [hk5, hn, Except.map]
      have HG4 := Lib.hid hG4
      have HT4 := Lib.hid hT4
      have Ho4 := Lib.hid ho4
      have Hcr4 := Lib.hid hcr
      clear hG4 hT4 hcr hrd4 ho4
      go_wp2_with (refine wpList_at 50 rfl ?_; refine wp_stop ?_)
      try refine ⟨?_⟩
      refine wpList_strBytes2 rfl (.tmp 49) ⟨ys.toArray⟩ rfl rfl Try.underlying9 Try.underlying22 (by kernel_rfl) ?_
      intro c5 w4b hrv hbb hzz ⟨cs, fz, hcs⟩
      have ho4 := Ho4.out.trans (Only.of_fresh hbb)
      have hG4 := HG4.out.below hbb HG4.out.lt
      have hT4 := HT4.out.below hbb
      have hsz : (⟨ys.toArray⟩ : ByteArray).size = ys.length := by simp [ByteArray.size]
      have hmid := CallMid.bytes (some ⟨w4.heap.size, 0, none⟩) c5 ys a2 hG4 hT4 ⟨by simpa using hrv, fun b o e => by injection e with e; injection e with e _; rw [← e]; exact ⟨cs, fz, hcs⟩⟩ (fun b o e => by injection e with e; injection e with e _; rw [← e]; exact Ho4.out.size) ho4 Hcr4.out
      rw [hsz]
      have g1 : w4b.cell? ⟨gg, 1, none⟩ = some (.int .i64 0) := hG4.cell 1
      have g2 : w4b.cell? ⟨gg, 2, none⟩ = some (.slice none 0 0) := hG4.cell 2
      have gf := hG4.frozen 1
      have gf2 := hG4.frozen 2
      have gl := hG4.lt
      obtain ⟨w5, hw5⟩ : ∃ w', w' = w4b.setCell ⟨gg, 2, none⟩ (.slice (some ⟨w4.heap.size, 0, none⟩) ys.length c5) := ⟨_, rfl⟩
      have hmid := show CallMid _ c m r gg w5 from by rw [hw5]; exact hmid
      have Hw5 := Lib.hid hw5
      obtain ⟨g, a, t, hcr, hgk, hG5, hB5, hfr5, hT5, hO5⟩ := hmid.out
      have Hfr5 := Lib.hid (show ∀ b o, t.1 = some ⟨b, o, none⟩ → w.heap.size ≤ b from fun b o e => Nat.le_trans Hb3.out.size (hfr5 b o e))
      rw [hk5] at hG5
      have hOw5 : Only (fun b => b = m.g) w w5 := (Only.of_fresh Hb3.out).more hO5 fun b hb e => e.resolve_right (by have := HggL.out; omega)
      have hS5 := HS.out.only hOw5 (fun b ty hb ht e => by rw [e] at hb; exact ht (blkT_eq hb HRd0.out.rd.blk.ty))
      have HS5 := Lib.hid hS5
      have HR5 := Lib.hid ((HR.out.go HS.out.sole Hm.out Hjd.out (List.getElem?_eq_some_iff.1 Hr.out).1 hOw5 hT5).1 rfl rfl (by rw [List.getD_eq_getElem?_getD, Hr.out]; rfl) g)
      have HB5 := Lib.hid hB5
      have Hcr := Lib.hid hcr
      have Hgk := Lib.hid hgk
      have HOw5 := Lib.hid hOw5
      have s4 : w5.cell? ⟨gs, 4, none⟩ = some (.slice l.AT st.told.length l.cT) := hS5.blk.cell 4
      have sf4 := hS5.blk.frozen 4
      have sl5 := hS5.blk.lt
      have k0 : w5.cell? ⟨gg, 0, none⟩ = some (.int .i64 5) := hG5.cell 0
      have k1 : w5.cell? ⟨gg, 1, none⟩ = some (.int .i64 g.n) := hG5.cell 1
      have k2 : w5.cell? ⟨gg, 2, none⟩ = some (.slice t.1 g.b.length t.2) := hG5.cell 2
      have kl := hG5.lt
      have HG5 := Lib.hid hG5
      clear hw5 hmid hcr hgk hG5 hB5 hfr5 hT5 hO5 hOw5 hS5 hG4 hT4 ho4 hrv hbb hzz hcs hsz HG4 HT4 Ho4 Hcr4
      go_upto_region 23 with (fail)
      rw [← Hw5.out]
      clear Hw5 g1 g2 gf gf2 gl
      obtain ⟨SC, hSCd⟩ : ∃ S : World → Prop, S = fun w' => (w'.cell? ⟨gs, 4, none⟩ = some (.slice l.AT st.told.length l.cT) ∧ w'.frozen? ⟨gs, 4, none⟩ = false ∧ gs < w'.heap.size) ∧ (w'.cell? ⟨gg, 0, none⟩ = some (.int .i64 5) ∧ w'.cell? ⟨gg, 1, none⟩ = some (.int .i64 g.n) ∧ w'.cell? ⟨gg, 2, none⟩ = some (.slice t.1 g.b.length t.2) ∧ gg < w'.heap.size) := ⟨_, rfl⟩
      have hSC : SC w5.drew := by rw [hSCd]; exact ⟨⟨s4, sf4, sl5⟩, ⟨k0, k1, k2, kl⟩⟩
      have HSC := Lib.hid (show SC w5.drew from hSC)
      have HSd := Lib.hid hSCd
      clear hSC hSCd
      refine region_heldT 8 SC (by kernel_rfl) (by decide) ?_
      refine HeadW.take 0 (v := pv gs) rfl (by kernel_rfl) (by kernel_rfl) (by kernel_rfl) (by decide) (by decide) (fun _ _ _ hL => seqB_ready hL.1) (by kernel_rfl) (by kernel_rfl) (fun _ _ _ h => h) HSC.out (.inl ⟨by kernel_rfl, by intro w hSw; rw [HSd.out] at hSw; obtain ⟨⟨e0, f0, l0⟩, ⟨e1, e2, e3, l1⟩⟩ := hSw; go_simp⟩) ?_
      simp only [Act.put, List.setIfInBounds_toArray]
      refine HeadW.take 1 (v := pv gs) rfl (by kernel_rfl) (by kernel_rfl) (by kernel_rfl) (by decide) (by decide) (fun _ _ _ hL => seqB_ready hL.1) (by kernel_rfl) (by kernel_rfl) (fun _ _ _ h => h) HSC.out (.inl ⟨by kernel_rfl, by intro w hSw; rw [HSd.out] at hSw; obtain ⟨⟨e0, f0, l0⟩, ⟨e1, e2, e3, l1⟩⟩ := hSw; go_simp⟩) ?_
      simp only [Act.put]
      refine HeadW.take 2 (v := pv gs) rfl (by kernel_rfl) (by kernel_rfl) (by kernel_rfl) (by decide) (by decide) (fun _ _ _ hL => seqB_ready hL.1) (by kernel_rfl) (by kernel_rfl) (fun _ _ _ h => h) HSC.out (.inl ⟨by kernel_rfl, by intro w hSw; rw [HSd.out] at hSw; obtain ⟨⟨e0, f0, l0⟩, ⟨e1, e2, e3, l1⟩⟩ := hSw; go_simp⟩) ?_
      simp only [Act.put]
      refine HeadW.take 3 (v := .pointer (some ⟨gs, 4, none⟩)) rfl (by kernel_rfl) (by kernel_rfl) (by kernel_rfl) (by decide) (by decide) (fun _ _ _ hL => seqB_ready hL.1) (by kernel_rfl) (by kernel_rfl) (fun _ _ _ h => h) HSC.out (.inl ⟨by kernel_rfl, by intro w hSw; rw [HSd.out] at hSw; obtain ⟨⟨e0, f0, l0⟩, ⟨e1, e2, e3, l1⟩⟩ := hSw; go_simp⟩) ?_
      simp only [Act.put]
      refine HeadW.take 4 (v := .slice l.AT st.told.length l.cT) rfl (by kernel_rfl) (by kernel_rfl) (by kernel_rfl) (by decide) (by decide) (fun _ _ _ hL => seqB_ready hL.1) (by kernel_rfl) (by kernel_rfl) (fun _ _ _ h => h) HSC.out (.inl ⟨by kernel_rfl, by intro w hSw; rw [HSd.out] at hSw; obtain ⟨⟨e0, f0, l0⟩, ⟨e1, e2, e3, l1⟩⟩ := hSw; go_simp⟩) ?_
      simp only [Act.put]
      refine HeadW.take 5 (v := .agg #[.int .i64 5, .int .i64 g.n, .slice t.1 g.b.length t.2]) rfl (by kernel_rfl) (by kernel_rfl) (by kernel_rfl) (by decide) (by decide) (fun _ _ _ hL => seqB_ready hL.1) (by kernel_rfl) (by kernel_rfl) (fun _ _ _ h => h) HSC.out (.inl ⟨by kernel_rfl, by intro w hSw; rw [HSd.out] at hSw; obtain ⟨⟨e0, f0, l0⟩, ⟨e1, e2, e3, l1⟩⟩ := hSw; go_simp⟩) ?_
      simp only [Act.put]
      clear s4 sf4 sl5 k0 k1 k2 kl
      refine headW_one 6 rfl (by decide) (by kernel_rfl) (by kernel_rfl) fun K hK => ?_
      go_simp
      obtain ⟨w6, hw6⟩ : ∃ w', w' = (w5.alloc (.cells #[.int .i64 5, .int .i64 g.n, .slice t.1 g.b.length t.2] 71)).drew := ⟨_, rfl⟩
      rw [← hw6]
      have hb56 : Below w5.heap.size w5 w6 := by rw [hw6]; exact ((Below.refl _ _).alloc (Nat.le_refl _) _).drew
      have hU6 : Blk w6 w5.heap.size 71 #[.int .i64 5, .int .i64 g.n, .slice t.1 g.b.length t.2] := by rw [hw6]; exact Blk.new w5 _ _
      have HS6 := Lib.hid (HS5.out.below hb56)
      have HG6 := Lib.hid (HG5.out.below hb56 HG5.out.lt)
      have HB6 := Lib.hid (HB5.out.only (S := fun _ => False) (Only.of_fresh hb56) fun _ _ h => h)
      have HR6 := Lib.hid (HR5.out.below hb56)
      have HU6 := Lib.hid hU6
      have HOw6 := Lib.hid (HOw5.out.trans (Only.of_fresh hb56))
      have hB6 : B ≤ w6.heap.size := by have := HOw6.out.size; omega
      have hSC6 : SC w6 := by rw [HSd.out]; exact ⟨⟨HS6.out.blk.cell 4, HS6.out.blk.frozen 4, HS6.out.blk.lt⟩, ⟨HG6.out.cell 0, HG6.out.cell 1, HG6.out.cell 2, HG6.out.lt⟩⟩
      refine hK.out _ _ hSC6 (fun hHeld => ?_)
      clear hK K hHeld hw6 hb56 hU6 hSC6 HSC
      refine headW_one 7 rfl (by decide) (by kernel_rfl) (by kernel_rfl) fun K hK => ?_
      refine wp_app (.tmp 81) (.tmp 83) eGot rfl rfl HS6.out.told (A' := some ⟨w5.heap.size, 0, none⟩) (m := 1) (c' := 1) (us := [.int .i64 5, .int .i64 g.n, .slice t.1 g.b.length t.2]) rfl (RV.of_blk HU6.out) rfl (by intro v hv; simp only [List.mem_cons, List.not_mem_nil, or_false] at hv; rcases hv with rfl | rfl | rfl <;> rfl) (by unfold maxLen; omega) (by omega) hB6 (by intro h; cases h) ?_
      intro A2 c2 w7 ho7 hg7 hA7
      have hO7 : Only (fun b => l.AT.map (·.block) = some b) w6 w7 := Only.of_grown hg7 fun k e => e
      have hS7 := HS6.out.blk.only hO7 (fun e => own_blk_ne2 HS6.out.told HS6.out.blk (by decide) e)
      have hG7 := HG6.out.only hO7 (fun e => by
        obtain ⟨h1, -, -⟩ := ownG_form HS.out.told _ e
        have h2 := HggL.out
        have h3 := (Own.row HS.out.told gg e).2
        omega)
      have hSC7 : SC w7 := by rw [HSd.out]; exact ⟨⟨hS7.cell 4, hS7.frozen 4, hS7.lt⟩, ⟨hG7.cell 0, hG7.cell 1, hG7.cell 2, hG7.lt⟩⟩
      refine hK.out _ _ hSC7 (fun hHeld => ?_)
      obtain ⟨hSn, hOn⟩ := HS6.out.tellM HB6.out j a (by rw [show gotCells g t = [.int .i64 5, .int .i64 g.n, .slice t.1 g.b.length t.2] from by unfold gotCells; rw [Hgk.out, hk5]]; exact ho7) hg7
      have hRn := HR6.out.only hOn (fun b cs hb e => by
        rcases e with e | e
        · rw [e] at hb; exact absurd (blkT_eq hb.ty HS6.out.blk.ty) (by decide)
        · obtain ⟨h1, -, -⟩ := ownG_form HS6.out.told b e
          obtain ⟨cs2, h2⟩ := own_ty HS6.out.told h1
          exact absurd (blkT_eq hb.ty h2.ty) (by decide)) (fun b hb e => by
        rcases e with e | e
        · rw [e] at hb; exact absurd (blkT_eq hb HS6.out.blk.ty) (by decide)
        · obtain ⟨h1, -, -⟩ := ownG_form HS6.out.told b e
          obtain ⟨cs2, h2⟩ := own_ty HS6.out.told h1
          exact absurd (blkT_eq hb h2.ty) (by decide))
      have hgr : Grew w l.AT A2 := fun b e => by
        rcases hA7 with h | h
        · rw [h] at e; exact .inl e
        · rw [h] at e; injection e with e; have := HOw6.out.size; exact .inr (by omega)
      have Hpost := Lib.hid (show CallPost B gs AC nC cC st ms ks TA l c w (.returned (.tuple #[])) (w7.setCell ⟨gs, 4, none⟩ (.slice A2 (st.told.length + 1) c2)) from by
        unfold CallPost
        rw [Hca.out, Hcr.out]
        have hj := Hj.out
        refine ⟨rfl, m, A2, c2, t, by rw [← hj]; exact Hm.out, by rw [← hj]; exact hSn, hgr, Hfr5.out, by rw [← hj]; exact hRn, ?_⟩
        exact (HOw6.out.mono fun _ _ e => .inr (.inl e)).trans (hOn.mono fun _ _ e => e.elim .inl fun e => .inr (.inr e)))
      have t4 : w7.cell? ⟨gs, 4, none⟩ = some (.slice l.AT st.told.length l.cT) := hS7.cell 4
      have tf4 := hS7.frozen 4
      have tl7 := hS7.lt
      clear hK K hHeld ho7 hg7 hA7 hO7 hS7 hG7 hSC7 hSn hOn hRn hgr HSd
      refine fun hInv => ⟨by kernel_rfl, ?_⟩
      clear hInv
      simp only [List.drop_succ_cons, List.drop_zero]
      clear SC
      go_wp2_with fail
      go_end0
      exact Hpost.out
  by_cases hk6 : c.kind = 6
  · as_aux_lemma =>
    have hc := rRaw_any m.g m.c r.2 c.n m.A r.1 w3 HRd3.out.rd Hrl.out
    go_wp2_with fail
    refine hc.mono ?_
    clear hc
    cases hn : rRawL r.1 r.2 c.n with
    | error f =>
      rintro e w4 ⟨rfl, ⟨aa, hrd4⟩, ho4⟩
      have hcr : callR c r.1 r.2 = some (.error f) := by unfold callR; simp [hk6, hn, Except.map]
      exact ⟨rfl, post_fell HS3.out HR3.out HRd3.out Hca.out Hm.out Hr.out Hj.out Hjd.out Hb3.out hcr (rRawE hn) hrd4 ho4⟩
    | ok ys =>
      rintro e w4 ⟨A2, c2, rfl, hoB, hrd4, ho4⟩
      obtain ⟨hG4, hT4⟩ := call_keeps HG3.out HRd3.out ho4 hrd4
      have hyl : r.2 + c.n.toNat = r.2 + ys.length := by rw [rRaw_len hn]
      have hcr : callR c r.1 r.2 = some (.ok (⟨c.kind, 0, ys⟩, r.2 + c.n.toNat)) := by rw [hyl]; unfold callR; simp [hk6, hn, Except.map]
      have hmid := CallMid.bytes A2 c2 ys (r.2 + c.n.toNat) hG4 hT4 ⟨RV.of_own hoB, fun b o e => by obtain ⟨cs, h⟩ := own_ty hoB e; exact h.ty⟩ (fun b o e => (Own.row hoB b (by rw [e]; rfl)).1) ho4 hcr
      have g1 : w4.cell? ⟨gg, 1, none⟩ = some (.int .i64 0) := hG4.cell 1
      have g2 : w4.cell? ⟨gg, 2, none⟩ = some (.slice none 0 0) := hG4.cell 2
      have gf := hG4.frozen 1
      have gf2 := hG4.frozen 2
      have gl := hG4.lt
      obtain ⟨w5, hw5⟩ : ∃ w', w' = w4.setCell ⟨gg, 2, none⟩ (.slice A2 ys.length c2) := ⟨_, rfl⟩
      have hmid := show CallMid _ c m r gg w5 from by rw [hw5]; exact hmid
      have Hw5 := Lib.hid hw5
      obtain ⟨g, a, t, hcr, hgk, hG5, hB5, hfr5, hT5, hO5⟩ := hmid.out
      have Hfr5 := Lib.hid (show ∀ b o, t.1 = some ⟨b, o, none⟩ → w.heap.size ≤ b from fun b o e => Nat.le_trans Hb3.out.size (hfr5 b o e))
      rw [hk6] at hG5
      have hOw5 : Only (fun b => b = m.g) w w5 := (Only.of_fresh Hb3.out).more hO5 fun b hb e => e.resolve_right (by have := HggL.out; omega)
      have hS5 := HS.out.only hOw5 (fun b ty hb ht e => by rw [e] at hb; exact ht (blkT_eq hb HRd0.out.rd.blk.ty))
      have HS5 := Lib.hid hS5
      have HR5 := Lib.hid ((HR.out.go HS.out.sole Hm.out Hjd.out (List.getElem?_eq_some_iff.1 Hr.out).1 hOw5 hT5).1 rfl rfl (by rw [List.getD_eq_getElem?_getD, Hr.out]; rfl) g)
      have HB5 := Lib.hid hB5
      have Hcr := Lib.hid hcr
      have Hgk := Lib.hid hgk
      have HOw5 := Lib.hid hOw5
      have s4 : w5.cell? ⟨gs, 4, none⟩ = some (.slice l.AT st.told.length l.cT) := hS5.blk.cell 4
      have sf4 := hS5.blk.frozen 4
      have sl5 := hS5.blk.lt
      have k0 : w5.cell? ⟨gg, 0, none⟩ = some (.int .i64 6) := hG5.cell 0
      have k1 : w5.cell? ⟨gg, 1, none⟩ = some (.int .i64 g.n) := hG5.cell 1
      have k2 : w5.cell? ⟨gg, 2, none⟩ = some (.slice t.1 g.b.length t.2) := hG5.cell 2
      have kl := hG5.lt
      have HG5 := Lib.hid hG5
      clear hw5 hmid hcr hgk hG5 hB5 hfr5 hT5 hO5 hOw5 hS5 hG4 hT4 hrd4 ho4 hoB hyl
      go_upto_region 23 with (fail)
      rw [← Hw5.out]
      clear Hw5 g1 g2 gf gf2 gl
      obtain ⟨SC, hSCd⟩ : ∃ S : World → Prop, S = fun w' => (w'.cell? ⟨gs, 4, none⟩ = some (.slice l.AT st.told.length l.cT) ∧ w'.frozen? ⟨gs, 4, none⟩ = false ∧ gs < w'.heap.size) ∧ (w'.cell? ⟨gg, 0, none⟩ = some (.int .i64 6) ∧ w'.cell? ⟨gg, 1, none⟩ = some (.int .i64 g.n) ∧ w'.cell? ⟨gg, 2, none⟩ = some (.slice t.1 g.b.length t.2) ∧ gg < w'.heap.size) := ⟨_, rfl⟩
      have hSC : SC w5.drew := by rw [hSCd]; exact ⟨⟨s4, sf4, sl5⟩, ⟨k0, k1, k2, kl⟩⟩
      have HSC := Lib.hid (show SC w5.drew from hSC)
      have HSd := Lib.hid hSCd
      clear hSC hSCd
      refine region_heldT 8 SC (by kernel_rfl) (by decide) ?_
      refine HeadW.take 0 (v := pv gs) rfl (by kernel_rfl) (by kernel_rfl) (by kernel_rfl) (by decide) (by decide) (fun _ _ _ hL => seqB_ready hL.1) (by kernel_rfl) (by kernel_rfl) (fun _ _ _ h => h) HSC.out (.inl ⟨by kernel_rfl, by intro w hSw; rw [HSd.out] at hSw; obtain ⟨⟨e0, f0, l0⟩, ⟨e1, e2, e3, l1⟩⟩ := hSw; go_simp⟩) ?_
      simp only [Act.put, List.setIfInBounds_toArray]
      refine HeadW.take 1 (v := pv gs) rfl (by kernel_rfl) (by kernel_rfl) (by kernel_rfl) (by decide) (by decide) (fun _ _ _ hL => seqB_ready hL.1) (by kernel_rfl) (by kernel_rfl) (fun _ _ _ h => h) HSC.out (.inl ⟨by kernel_rfl, by intro w hSw; rw [HSd.out] at hSw; obtain ⟨⟨e0, f0, l0⟩, ⟨e1, e2, e3, l1⟩⟩ := hSw; go_simp⟩) ?_
      simp only [Act.put]
      refine HeadW.take 2 (v := pv gs) rfl (by kernel_rfl) (by kernel_rfl) (by kernel_rfl) (by decide) (by decide) (fun _ _ _ hL => seqB_ready hL.1) (by kernel_rfl) (by kernel_rfl) (fun _ _ _ h => h) HSC.out (.inl ⟨by kernel_rfl, by intro w hSw; rw [HSd.out] at hSw; obtain ⟨⟨e0, f0, l0⟩, ⟨e1, e2, e3, l1⟩⟩ := hSw; go_simp⟩) ?_
      simp only [Act.put]
      refine HeadW.take 3 (v := .pointer (some ⟨gs, 4, none⟩)) rfl (by kernel_rfl) (by kernel_rfl) (by kernel_rfl) (by decide) (by decide) (fun _ _ _ hL => seqB_ready hL.1) (by kernel_rfl) (by kernel_rfl) (fun _ _ _ h => h) HSC.out (.inl ⟨by kernel_rfl, by intro w hSw; rw [HSd.out] at hSw; obtain ⟨⟨e0, f0, l0⟩, ⟨e1, e2, e3, l1⟩⟩ := hSw; go_simp⟩) ?_
      simp only [Act.put]
      refine HeadW.take 4 (v := .slice l.AT st.told.length l.cT) rfl (by kernel_rfl) (by kernel_rfl) (by kernel_rfl) (by decide) (by decide) (fun _ _ _ hL => seqB_ready hL.1) (by kernel_rfl) (by kernel_rfl) (fun _ _ _ h => h) HSC.out (.inl ⟨by kernel_rfl, by intro w hSw; rw [HSd.out] at hSw; obtain ⟨⟨e0, f0, l0⟩, ⟨e1, e2, e3, l1⟩⟩ := hSw; go_simp⟩) ?_
      simp only [Act.put]
      refine HeadW.take 5 (v := .agg #[.int .i64 6, .int .i64 g.n, .slice t.1 g.b.length t.2]) rfl (by kernel_rfl) (by kernel_rfl) (by kernel_rfl) (by decide) (by decide) (fun _ _ _ hL => seqB_ready hL.1) (by kernel_rfl) (by kernel_rfl) (fun _ _ _ h => h) HSC.out (.inl ⟨by kernel_rfl, by intro w hSw; rw [HSd.out] at hSw; obtain ⟨⟨e0, f0, l0⟩, ⟨e1, e2, e3, l1⟩⟩ := hSw; go_simp⟩) ?_
      simp only [Act.put]
      clear s4 sf4 sl5 k0 k1 k2 kl
      refine headW_one 6 rfl (by decide) (by kernel_rfl) (by kernel_rfl) fun K hK => ?_
      go_simp
      obtain ⟨w6, hw6⟩ : ∃ w', w' = (w5.alloc (.cells #[.int .i64 6, .int .i64 g.n, .slice t.1 g.b.length t.2] 71)).drew := ⟨_, rfl⟩
      rw [← hw6]
      have hb56 : Below w5.heap.size w5 w6 := by rw [hw6]; exact ((Below.refl _ _).alloc (Nat.le_refl _) _).drew
      have hU6 : Blk w6 w5.heap.size 71 #[.int .i64 6, .int .i64 g.n, .slice t.1 g.b.length t.2] := by rw [hw6]; exact Blk.new w5 _ _
      have HS6 := Lib.hid (HS5.out.below hb56)
      have HG6 := Lib.hid (HG5.out.below hb56 HG5.out.lt)
      have HB6 := Lib.hid (HB5.out.only (S := fun _ => False) (Only.of_fresh hb56) fun _ _ h => h)
      have HR6 := Lib.hid (HR5.out.below hb56)
      have HU6 := Lib.hid hU6
      have HOw6 := Lib.hid (HOw5.out.trans (Only.of_fresh hb56))
      have hB6 : B ≤ w6.heap.size := by have := HOw6.out.size; omega
      have hSC6 : SC w6 := by rw [HSd.out]; exact ⟨⟨HS6.out.blk.cell 4, HS6.out.blk.frozen 4, HS6.out.blk.lt⟩, ⟨HG6.out.cell 0, HG6.out.cell 1, HG6.out.cell 2, HG6.out.lt⟩⟩
      refine hK.out _ _ hSC6 (fun hHeld => ?_)
      clear hK K hHeld hw6 hb56 hU6 hSC6 HSC
      refine headW_one 7 rfl (by decide) (by kernel_rfl) (by kernel_rfl) fun K hK => ?_
      refine wp_app (.tmp 81) (.tmp 83) eGot rfl rfl HS6.out.told (A' := some ⟨w5.heap.size, 0, none⟩) (m := 1) (c' := 1) (us := [.int .i64 6, .int .i64 g.n, .slice t.1 g.b.length t.2]) rfl (RV.of_blk HU6.out) rfl (by intro v hv; simp only [List.mem_cons, List.not_mem_nil, or_false] at hv; rcases hv with rfl | rfl | rfl <;> rfl) (by unfold maxLen; omega) (by omega) hB6 (by intro h; cases h) ?_
      intro A2 c2 w7 ho7 hg7 hA7
      have hO7 : Only (fun b => l.AT.map (·.block) = some b) w6 w7 := Only.of_grown hg7 fun k e => e
      have hS7 := HS6.out.blk.only hO7 (fun e => own_blk_ne2 HS6.out.told HS6.out.blk (by decide) e)
      have hG7 := HG6.out.only hO7 (fun e => by
        obtain ⟨h1, -, -⟩ := ownG_form HS.out.told _ e
        have h2 := HggL.out
        have h3 := (Own.row HS.out.told gg e).2
        omega)
      have hSC7 : SC w7 := by rw [HSd.out]; exact ⟨⟨hS7.cell 4, hS7.frozen 4, hS7.lt⟩, ⟨hG7.cell 0, hG7.cell 1, hG7.cell 2, hG7.lt⟩⟩
      refine hK.out _ _ hSC7 (fun hHeld => ?_)
      obtain ⟨hSn, hOn⟩ := HS6.out.tellM HB6.out j a (by rw [show gotCells g t = [.int .i64 6, .int .i64 g.n, .slice t.1 g.b.length t.2] from by unfold gotCells; rw [Hgk.out, hk6]]; exact ho7) hg7
      have hRn := HR6.out.only hOn (fun b cs hb e => by
        rcases e with e | e
        · rw [e] at hb; exact absurd (blkT_eq hb.ty HS6.out.blk.ty) (by decide)
        · obtain ⟨h1, -, -⟩ := ownG_form HS6.out.told b e
          obtain ⟨cs2, h2⟩ := own_ty HS6.out.told h1
          exact absurd (blkT_eq hb.ty h2.ty) (by decide)) (fun b hb e => by
        rcases e with e | e
        · rw [e] at hb; exact absurd (blkT_eq hb HS6.out.blk.ty) (by decide)
        · obtain ⟨h1, -, -⟩ := ownG_form HS6.out.told b e
          obtain ⟨cs2, h2⟩ := own_ty HS6.out.told h1
          exact absurd (blkT_eq hb h2.ty) (by decide))
      have hgr : Grew w l.AT A2 := fun b e => by
        rcases hA7 with h | h
        · rw [h] at e; exact .inl e
        · rw [h] at e; injection e with e; have := HOw6.out.size; exact .inr (by omega)
      have Hpost := Lib.hid (show CallPost B gs AC nC cC st ms ks TA l c w (.returned (.tuple #[])) (w7.setCell ⟨gs, 4, none⟩ (.slice A2 (st.told.length + 1) c2)) from by
        unfold CallPost
        rw [Hca.out, Hcr.out]
        have hj := Hj.out
        refine ⟨rfl, m, A2, c2, t, by rw [← hj]; exact Hm.out, by rw [← hj]; exact hSn, hgr, Hfr5.out, by rw [← hj]; exact hRn, ?_⟩
        exact (HOw6.out.mono fun _ _ e => .inr (.inl e)).trans (hOn.mono fun _ _ e => e.elim .inl fun e => .inr (.inr e)))
      have t4 : w7.cell? ⟨gs, 4, none⟩ = some (.slice l.AT st.told.length l.cT) := hS7.cell 4
      have tf4 := hS7.frozen 4
      have tl7 := hS7.lt
      clear hK K hHeld ho7 hg7 hA7 hO7 hS7 hG7 hSC7 hSn hOn hRn hgr HSd
      refine fun hInv => ⟨by kernel_rfl, ?_⟩
      clear hInv
      simp only [List.drop_succ_cons, List.drop_zero]
      clear SC
      go_wp2_with fail
      go_end0
      exact Hpost.out
  by_cases hk7 : c.kind = 7
  · as_aux_lemma =>
    have hc := rMost_any m.g m.c r.2 c.n m.A r.1 w3 HRd3.out.rd Hrl.out
    go_wp2_with fail
    refine hc.mono ?_
    clear hc
    cases hn : rMostL r.1 r.2 c.n with
    | error f =>
      rintro e w4 ⟨rfl, ⟨aa, hrd4⟩, ho4⟩
      have hcr : callR c r.1 r.2 = some (.error f) := by unfold callR; simp [hk7, hn, Except.map]
      exact ⟨rfl, post_fell HS3.out HR3.out HRd3.out Hca.out Hm.out Hr.out Hj.out Hjd.out Hb3.out hcr (rMostE hn) hrd4 ho4⟩
    | ok uk =>
      obtain ⟨u, k⟩ := uk
      rintro e w4 ⟨rfl, hrd4, ho4⟩
      obtain ⟨hG4, hT4⟩ := call_keeps HG3.out HRd3.out ho4 hrd4
      have hcr : callR c r.1 r.2 = some (.ok (⟨c.kind, (u : Int), []⟩, r.2 + k)) := by unfold callR; simp [hk7, hn, Except.map]
      have hmid := CallMid.num ((u : Int)) (r.2 + k) hG4 hT4 ho4 hcr
      have g1 : w4.cell? ⟨gg, 1, none⟩ = some (.int .i64 0) := hG4.cell 1
      have g2 : w4.cell? ⟨gg, 2, none⟩ = some (.slice none 0 0) := hG4.cell 2
      have gf := hG4.frozen 1
      have gf2 := hG4.frozen 2
      have gl := hG4.lt
      obtain ⟨w5, hw5⟩ : ∃ w', w' = w4.setCell ⟨gg, 1, none⟩ (.int .i64 ((u : Int))) := ⟨_, rfl⟩
      have hmid := show CallMid _ c m r gg w5 from by rw [hw5]; exact hmid
      have Hw5 := Lib.hid hw5
      obtain ⟨g, a, t, hcr, hgk, hG5, hB5, hfr5, hT5, hO5⟩ := hmid.out
      have Hfr5 := Lib.hid (show ∀ b o, t.1 = some ⟨b, o, none⟩ → w.heap.size ≤ b from fun b o e => Nat.le_trans Hb3.out.size (hfr5 b o e))
      rw [hk7] at hG5
      have hOw5 : Only (fun b => b = m.g) w w5 := (Only.of_fresh Hb3.out).more hO5 fun b hb e => e.resolve_right (by have := HggL.out; omega)
      have hS5 := HS.out.only hOw5 (fun b ty hb ht e => by rw [e] at hb; exact ht (blkT_eq hb HRd0.out.rd.blk.ty))
      have HS5 := Lib.hid hS5
      have HR5 := Lib.hid ((HR.out.go HS.out.sole Hm.out Hjd.out (List.getElem?_eq_some_iff.1 Hr.out).1 hOw5 hT5).1 rfl rfl (by rw [List.getD_eq_getElem?_getD, Hr.out]; rfl) g)
      have HB5 := Lib.hid hB5
      have Hcr := Lib.hid hcr
      have Hgk := Lib.hid hgk
      have HOw5 := Lib.hid hOw5
      have s4 : w5.cell? ⟨gs, 4, none⟩ = some (.slice l.AT st.told.length l.cT) := hS5.blk.cell 4
      have sf4 := hS5.blk.frozen 4
      have sl5 := hS5.blk.lt
      have k0 : w5.cell? ⟨gg, 0, none⟩ = some (.int .i64 7) := hG5.cell 0
      have k1 : w5.cell? ⟨gg, 1, none⟩ = some (.int .i64 g.n) := hG5.cell 1
      have k2 : w5.cell? ⟨gg, 2, none⟩ = some (.slice t.1 g.b.length t.2) := hG5.cell 2
      have kl := hG5.lt
      have HG5 := Lib.hid hG5
      clear hw5 hmid hcr hgk hG5 hB5 hfr5 hT5 hO5 hOw5 hS5 hG4 hT4 hrd4 ho4
      go_upto_region 23 with (fail)
      rw [← Hw5.out]
      clear Hw5 g1 g2 gf gf2 gl
      obtain ⟨SC, hSCd⟩ : ∃ S : World → Prop, S = fun w' => (w'.cell? ⟨gs, 4, none⟩ = some (.slice l.AT st.told.length l.cT) ∧ w'.frozen? ⟨gs, 4, none⟩ = false ∧ gs < w'.heap.size) ∧ (w'.cell? ⟨gg, 0, none⟩ = some (.int .i64 7) ∧ w'.cell? ⟨gg, 1, none⟩ = some (.int .i64 g.n) ∧ w'.cell? ⟨gg, 2, none⟩ = some (.slice t.1 g.b.length t.2) ∧ gg < w'.heap.size) := ⟨_, rfl⟩
      have hSC : SC w5.drew := by rw [hSCd]; exact ⟨⟨s4, sf4, sl5⟩, ⟨k0, k1, k2, kl⟩⟩
      have HSC := Lib.hid (show SC w5.drew from hSC)
      have HSd := Lib.hid hSCd
      clear hSC hSCd
      refine region_heldT 8 SC (by kernel_rfl) (by decide) ?_
      refine HeadW.take 0 (v := pv gs) rfl (by kernel_rfl) (by kernel_rfl) (by kernel_rfl) (by decide) (by decide) (fun _ _ _ hL => seqB_ready hL.1) (by kernel_rfl) (by kernel_rfl) (fun _ _ _ h => h) HSC.out (.inl ⟨by kernel_rfl, by intro w hSw; rw [HSd.out] at hSw; obtain ⟨⟨e0, f0, l0⟩, ⟨e1, e2, e3, l1⟩⟩ := hSw; go_simp⟩) ?_
      simp only [Act.put, List.setIfInBounds_toArray]
      refine HeadW.take 1 (v := pv gs) rfl (by kernel_rfl) (by kernel_rfl) (by kernel_rfl) (by decide) (by decide) (fun _ _ _ hL => seqB_ready hL.1) (by kernel_rfl) (by kernel_rfl) (fun _ _ _ h => h) HSC.out (.inl ⟨by kernel_rfl, by intro w hSw; rw [HSd.out] at hSw; obtain ⟨⟨e0, f0, l0⟩, ⟨e1, e2, e3, l1⟩⟩ := hSw; go_simp⟩) ?_
      simp only [Act.put]
      refine HeadW.take 2 (v := pv gs) rfl (by kernel_rfl) (by kernel_rfl) (by kernel_rfl) (by decide) (by decide) (fun _ _ _ hL => seqB_ready hL.1) (by kernel_rfl) (by kernel_rfl) (fun _ _ _ h => h) HSC.out (.inl ⟨by kernel_rfl, by intro w hSw; rw [HSd.out] at hSw; obtain ⟨⟨e0, f0, l0⟩, ⟨e1, e2, e3, l1⟩⟩ := hSw; go_simp⟩) ?_
      simp only [Act.put]
      refine HeadW.take 3 (v := .pointer (some ⟨gs, 4, none⟩)) rfl (by kernel_rfl) (by kernel_rfl) (by kernel_rfl) (by decide) (by decide) (fun _ _ _ hL => seqB_ready hL.1) (by kernel_rfl) (by kernel_rfl) (fun _ _ _ h => h) HSC.out (.inl ⟨by kernel_rfl, by intro w hSw; rw [HSd.out] at hSw; obtain ⟨⟨e0, f0, l0⟩, ⟨e1, e2, e3, l1⟩⟩ := hSw; go_simp⟩) ?_
      simp only [Act.put]
      refine HeadW.take 4 (v := .slice l.AT st.told.length l.cT) rfl (by kernel_rfl) (by kernel_rfl) (by kernel_rfl) (by decide) (by decide) (fun _ _ _ hL => seqB_ready hL.1) (by kernel_rfl) (by kernel_rfl) (fun _ _ _ h => h) HSC.out (.inl ⟨by kernel_rfl, by intro w hSw; rw [HSd.out] at hSw; obtain ⟨⟨e0, f0, l0⟩, ⟨e1, e2, e3, l1⟩⟩ := hSw; go_simp⟩) ?_
      simp only [Act.put]
      refine HeadW.take 5 (v := .agg #[.int .i64 7, .int .i64 g.n, .slice t.1 g.b.length t.2]) rfl (by kernel_rfl) (by kernel_rfl) (by kernel_rfl) (by decide) (by decide) (fun _ _ _ hL => seqB_ready hL.1) (by kernel_rfl) (by kernel_rfl) (fun _ _ _ h => h) HSC.out (.inl ⟨by kernel_rfl, by intro w hSw; rw [HSd.out] at hSw; obtain ⟨⟨e0, f0, l0⟩, ⟨e1, e2, e3, l1⟩⟩ := hSw; go_simp⟩) ?_
      simp only [Act.put]
      clear s4 sf4 sl5 k0 k1 k2 kl
      refine headW_one 6 rfl (by decide) (by kernel_rfl) (by kernel_rfl) fun K hK => ?_
      go_simp
      obtain ⟨w6, hw6⟩ : ∃ w', w' = (w5.alloc (.cells #[.int .i64 7, .int .i64 g.n, .slice t.1 g.b.length t.2] 71)).drew := ⟨_, rfl⟩
      rw [← hw6]
      have hb56 : Below w5.heap.size w5 w6 := by rw [hw6]; exact ((Below.refl _ _).alloc (Nat.le_refl _) _).drew
      have hU6 : Blk w6 w5.heap.size 71 #[.int .i64 7, .int .i64 g.n, .slice t.1 g.b.length t.2] := by rw [hw6]; exact Blk.new w5 _ _
      have HS6 := Lib.hid (HS5.out.below hb56)
      have HG6 := Lib.hid (HG5.out.below hb56 HG5.out.lt)
      have HB6 := Lib.hid (HB5.out.only (S := fun _ => False) (Only.of_fresh hb56) fun _ _ h => h)
      have HR6 := Lib.hid (HR5.out.below hb56)
      have HU6 := Lib.hid hU6
      have HOw6 := Lib.hid (HOw5.out.trans (Only.of_fresh hb56))
      have hB6 : B ≤ w6.heap.size := by have := HOw6.out.size; omega
      have hSC6 : SC w6 := by rw [HSd.out]; exact ⟨⟨HS6.out.blk.cell 4, HS6.out.blk.frozen 4, HS6.out.blk.lt⟩, ⟨HG6.out.cell 0, HG6.out.cell 1, HG6.out.cell 2, HG6.out.lt⟩⟩
      refine hK.out _ _ hSC6 (fun hHeld => ?_)
      clear hK K hHeld hw6 hb56 hU6 hSC6 HSC
      refine headW_one 7 rfl (by decide) (by kernel_rfl) (by kernel_rfl) fun K hK => ?_
      refine wp_app (.tmp 81) (.tmp 83) eGot rfl rfl HS6.out.told (A' := some ⟨w5.heap.size, 0, none⟩) (m := 1) (c' := 1) (us := [.int .i64 7, .int .i64 g.n, .slice t.1 g.b.length t.2]) rfl (RV.of_blk HU6.out) rfl (by intro v hv; simp only [List.mem_cons, List.not_mem_nil, or_false] at hv; rcases hv with rfl | rfl | rfl <;> rfl) (by unfold maxLen; omega) (by omega) hB6 (by intro h; cases h) ?_
      intro A2 c2 w7 ho7 hg7 hA7
      have hO7 : Only (fun b => l.AT.map (·.block) = some b) w6 w7 := Only.of_grown hg7 fun k e => e
      have hS7 := HS6.out.blk.only hO7 (fun e => own_blk_ne2 HS6.out.told HS6.out.blk (by decide) e)
      have hG7 := HG6.out.only hO7 (fun e => by
        obtain ⟨h1, -, -⟩ := ownG_form HS.out.told _ e
        have h2 := HggL.out
        have h3 := (Own.row HS.out.told gg e).2
        omega)
      have hSC7 : SC w7 := by rw [HSd.out]; exact ⟨⟨hS7.cell 4, hS7.frozen 4, hS7.lt⟩, ⟨hG7.cell 0, hG7.cell 1, hG7.cell 2, hG7.lt⟩⟩
      refine hK.out _ _ hSC7 (fun hHeld => ?_)
      obtain ⟨hSn, hOn⟩ := HS6.out.tellM HB6.out j a (by rw [show gotCells g t = [.int .i64 7, .int .i64 g.n, .slice t.1 g.b.length t.2] from by unfold gotCells; rw [Hgk.out, hk7]]; exact ho7) hg7
      have hRn := HR6.out.only hOn (fun b cs hb e => by
        rcases e with e | e
        · rw [e] at hb; exact absurd (blkT_eq hb.ty HS6.out.blk.ty) (by decide)
        · obtain ⟨h1, -, -⟩ := ownG_form HS6.out.told b e
          obtain ⟨cs2, h2⟩ := own_ty HS6.out.told h1
          exact absurd (blkT_eq hb.ty h2.ty) (by decide)) (fun b hb e => by
        rcases e with e | e
        · rw [e] at hb; exact absurd (blkT_eq hb HS6.out.blk.ty) (by decide)
        · obtain ⟨h1, -, -⟩ := ownG_form HS6.out.told b e
          obtain ⟨cs2, h2⟩ := own_ty HS6.out.told h1
          exact absurd (blkT_eq hb h2.ty) (by decide))
      have hgr : Grew w l.AT A2 := fun b e => by
        rcases hA7 with h | h
        · rw [h] at e; exact .inl e
        · rw [h] at e; injection e with e; have := HOw6.out.size; exact .inr (by omega)
      have Hpost := Lib.hid (show CallPost B gs AC nC cC st ms ks TA l c w (.returned (.tuple #[])) (w7.setCell ⟨gs, 4, none⟩ (.slice A2 (st.told.length + 1) c2)) from by
        unfold CallPost
        rw [Hca.out, Hcr.out]
        have hj := Hj.out
        refine ⟨rfl, m, A2, c2, t, by rw [← hj]; exact Hm.out, by rw [← hj]; exact hSn, hgr, Hfr5.out, by rw [← hj]; exact hRn, ?_⟩
        exact (HOw6.out.mono fun _ _ e => .inr (.inl e)).trans (hOn.mono fun _ _ e => e.elim .inl fun e => .inr (.inr e)))
      have t4 : w7.cell? ⟨gs, 4, none⟩ = some (.slice l.AT st.told.length l.cT) := hS7.cell 4
      have tf4 := hS7.frozen 4
      have tl7 := hS7.lt
      clear hK K hHeld ho7 hg7 hA7 hO7 hS7 hG7 hSC7 hSn hOn hRn hgr HSd
      refine fun hInv => ⟨by kernel_rfl, ?_⟩
      clear hInv
      simp only [List.drop_succ_cons, List.drop_zero]
      clear SC
      go_wp2_with fail
      go_end0
      exact Hpost.out
  by_cases hk8 : c.kind = 8
  · as_aux_lemma =>
    go_wp2_with fail
    refine (rLeft_any m.g m.c r.2 m.A r.1 w3 HRd3.out.rd Hrl.out).mono ?_
    rintro e w4 ⟨rfl, mm, rfl⟩
    have ho4 : Only (fun b => b = m.g) w3 (w3.drewN mm) := (Only.refl _ w3).drewN mm
    obtain ⟨hG4, hT4⟩ := call_keeps HG3.out HRd3.out ho4 (HRd3.out.rd.drewN mm)
    have hcr : callR c r.1 r.2 = some (.ok (⟨c.kind, ((r.1.length - r.2 : Nat) : Int), []⟩, r.2)) := by unfold callR; simp [hk8]
    have hmid := CallMid.num ((r.1.length - r.2 : Nat) : Int) r.2 hG4 hT4 ho4 hcr
    obtain ⟨w4, hw4⟩ : ∃ w', w' = w3.drewN mm := ⟨_, rfl⟩
    rw [← hw4] at hmid hG4 ⊢
    have g1 : w4.cell? ⟨gg, 1, none⟩ = some (.int .i64 0) := hG4.cell 1
    have g2 : w4.cell? ⟨gg, 2, none⟩ = some (.slice none 0 0) := hG4.cell 2
    have gf := hG4.frozen 1
    have gf2 := hG4.frozen 2
    have gl := hG4.lt
    obtain ⟨w5, hw5⟩ : ∃ w', w' = w4.setCell ⟨gg, 1, none⟩ (.int .i64 ((r.1.length - r.2 : Nat) : Int)) := ⟨_, rfl⟩
    have hmid := show CallMid _ c m r gg w5 from by rw [hw5]; exact hmid
    have Hw5 := Lib.hid hw5
    obtain ⟨g, a, t, hcr, hgk, hG5, hB5, hfr5, hT5, hO5⟩ := hmid.out
    have Hfr5 := Lib.hid (show ∀ b o, t.1 = some ⟨b, o, none⟩ → w.heap.size ≤ b from fun b o e => Nat.le_trans Hb3.out.size (hfr5 b o e))
    rw [hk8] at hG5
    have hOw5 : Only (fun b => b = m.g) w w5 := (Only.of_fresh Hb3.out).more hO5 fun b hb e => e.resolve_right (by have := HggL.out; omega)
    have hS5 := HS.out.only hOw5 (fun b ty hb ht e => by rw [e] at hb; exact ht (blkT_eq hb HRd0.out.rd.blk.ty))
    have HS5 := Lib.hid hS5
    have HR5 := Lib.hid ((HR.out.go HS.out.sole Hm.out Hjd.out (List.getElem?_eq_some_iff.1 Hr.out).1 hOw5 hT5).1 rfl rfl (by rw [List.getD_eq_getElem?_getD, Hr.out]; rfl) g)
    have HB5 := Lib.hid hB5
    have Hcr := Lib.hid hcr
    have Hgk := Lib.hid hgk
    have HOw5 := Lib.hid hOw5
    have s4 : w5.cell? ⟨gs, 4, none⟩ = some (.slice l.AT st.told.length l.cT) := hS5.blk.cell 4
    have sf4 := hS5.blk.frozen 4
    have sl5 := hS5.blk.lt
    have k0 : w5.cell? ⟨gg, 0, none⟩ = some (.int .i64 8) := hG5.cell 0
    have k1 : w5.cell? ⟨gg, 1, none⟩ = some (.int .i64 g.n) := hG5.cell 1
    have k2 : w5.cell? ⟨gg, 2, none⟩ = some (.slice t.1 g.b.length t.2) := hG5.cell 2
    have kl := hG5.lt
    have HG5 := Lib.hid hG5
    clear hw5 hmid hcr hgk hG5 hB5 hfr5 hT5 hO5 hOw5 hS5 hG4 hT4 ho4 hw4
    go_upto_region 23 with (fail)
    rw [← Hw5.out]
    clear Hw5 g1 g2 gf gf2 gl
    obtain ⟨SC, hSCd⟩ : ∃ S : World → Prop, S = fun w' => (w'.cell? ⟨gs, 4, none⟩ = some (.slice l.AT st.told.length l.cT) ∧ w'.frozen? ⟨gs, 4, none⟩ = false ∧ gs < w'.heap.size) ∧ (w'.cell? ⟨gg, 0, none⟩ = some (.int .i64 8) ∧ w'.cell? ⟨gg, 1, none⟩ = some (.int .i64 g.n) ∧ w'.cell? ⟨gg, 2, none⟩ = some (.slice t.1 g.b.length t.2) ∧ gg < w'.heap.size) := ⟨_, rfl⟩
    have hSC : SC w5.drew := by rw [hSCd]; exact ⟨⟨s4, sf4, sl5⟩, ⟨k0, k1, k2, kl⟩⟩
    have HSC := Lib.hid (show SC w5.drew from hSC)
    have HSd := Lib.hid hSCd
    clear hSC hSCd
    refine region_heldT 8 SC (by kernel_rfl) (by decide) ?_
    refine HeadW.take 0 (v := pv gs) rfl (by kernel_rfl) (by kernel_rfl) (by kernel_rfl) (by decide) (by decide) (fun _ _ _ hL => seqB_ready hL.1) (by kernel_rfl) (by kernel_rfl) (fun _ _ _ h => h) HSC.out (.inl ⟨by kernel_rfl, by intro w hSw; rw [HSd.out] at hSw; obtain ⟨⟨e0, f0, l0⟩, ⟨e1, e2, e3, l1⟩⟩ := hSw; go_simp⟩) ?_
    simp only [Act.put, List.setIfInBounds_toArray]
    refine HeadW.take 1 (v := pv gs) rfl (by kernel_rfl) (by kernel_rfl) (by kernel_rfl) (by decide) (by decide) (fun _ _ _ hL => seqB_ready hL.1) (by kernel_rfl) (by kernel_rfl) (fun _ _ _ h => h) HSC.out (.inl ⟨by kernel_rfl, by intro w hSw; rw [HSd.out] at hSw; obtain ⟨⟨e0, f0, l0⟩, ⟨e1, e2, e3, l1⟩⟩ := hSw; go_simp⟩) ?_
    simp only [Act.put]
    refine HeadW.take 2 (v := pv gs) rfl (by kernel_rfl) (by kernel_rfl) (by kernel_rfl) (by decide) (by decide) (fun _ _ _ hL => seqB_ready hL.1) (by kernel_rfl) (by kernel_rfl) (fun _ _ _ h => h) HSC.out (.inl ⟨by kernel_rfl, by intro w hSw; rw [HSd.out] at hSw; obtain ⟨⟨e0, f0, l0⟩, ⟨e1, e2, e3, l1⟩⟩ := hSw; go_simp⟩) ?_
    simp only [Act.put]
    refine HeadW.take 3 (v := .pointer (some ⟨gs, 4, none⟩)) rfl (by kernel_rfl) (by kernel_rfl) (by kernel_rfl) (by decide) (by decide) (fun _ _ _ hL => seqB_ready hL.1) (by kernel_rfl) (by kernel_rfl) (fun _ _ _ h => h) HSC.out (.inl ⟨by kernel_rfl, by intro w hSw; rw [HSd.out] at hSw; obtain ⟨⟨e0, f0, l0⟩, ⟨e1, e2, e3, l1⟩⟩ := hSw; go_simp⟩) ?_
    simp only [Act.put]
    refine HeadW.take 4 (v := .slice l.AT st.told.length l.cT) rfl (by kernel_rfl) (by kernel_rfl) (by kernel_rfl) (by decide) (by decide) (fun _ _ _ hL => seqB_ready hL.1) (by kernel_rfl) (by kernel_rfl) (fun _ _ _ h => h) HSC.out (.inl ⟨by kernel_rfl, by intro w hSw; rw [HSd.out] at hSw; obtain ⟨⟨e0, f0, l0⟩, ⟨e1, e2, e3, l1⟩⟩ := hSw; go_simp⟩) ?_
    simp only [Act.put]
    refine HeadW.take 5 (v := .agg #[.int .i64 8, .int .i64 g.n, .slice t.1 g.b.length t.2]) rfl (by kernel_rfl) (by kernel_rfl) (by kernel_rfl) (by decide) (by decide) (fun _ _ _ hL => seqB_ready hL.1) (by kernel_rfl) (by kernel_rfl) (fun _ _ _ h => h) HSC.out (.inl ⟨by kernel_rfl, by intro w hSw; rw [HSd.out] at hSw; obtain ⟨⟨e0, f0, l0⟩, ⟨e1, e2, e3, l1⟩⟩ := hSw; go_simp⟩) ?_
    simp only [Act.put]
    clear s4 sf4 sl5 k0 k1 k2 kl
    refine headW_one 6 rfl (by decide) (by kernel_rfl) (by kernel_rfl) fun K hK => ?_
    go_simp
    obtain ⟨w6, hw6⟩ : ∃ w', w' = (w5.alloc (.cells #[.int .i64 8, .int .i64 g.n, .slice t.1 g.b.length t.2] 71)).drew := ⟨_, rfl⟩
    rw [← hw6]
    have hb56 : Below w5.heap.size w5 w6 := by rw [hw6]; exact ((Below.refl _ _).alloc (Nat.le_refl _) _).drew
    have hU6 : Blk w6 w5.heap.size 71 #[.int .i64 8, .int .i64 g.n, .slice t.1 g.b.length t.2] := by rw [hw6]; exact Blk.new w5 _ _
    have HS6 := Lib.hid (HS5.out.below hb56)
    have HG6 := Lib.hid (HG5.out.below hb56 HG5.out.lt)
    have HB6 := Lib.hid (HB5.out.only (S := fun _ => False) (Only.of_fresh hb56) fun _ _ h => h)
    have HR6 := Lib.hid (HR5.out.below hb56)
    have HU6 := Lib.hid hU6
    have HOw6 := Lib.hid (HOw5.out.trans (Only.of_fresh hb56))
    have hB6 : B ≤ w6.heap.size := by have := HOw6.out.size; omega
    have hSC6 : SC w6 := by rw [HSd.out]; exact ⟨⟨HS6.out.blk.cell 4, HS6.out.blk.frozen 4, HS6.out.blk.lt⟩, ⟨HG6.out.cell 0, HG6.out.cell 1, HG6.out.cell 2, HG6.out.lt⟩⟩
    refine hK.out _ _ hSC6 (fun hHeld => ?_)
    clear hK K hHeld hw6 hb56 hU6 hSC6 HSC
    refine headW_one 7 rfl (by decide) (by kernel_rfl) (by kernel_rfl) fun K hK => ?_
    refine wp_app (.tmp 81) (.tmp 83) eGot rfl rfl HS6.out.told (A' := some ⟨w5.heap.size, 0, none⟩) (m := 1) (c' := 1) (us := [.int .i64 8, .int .i64 g.n, .slice t.1 g.b.length t.2]) rfl (RV.of_blk HU6.out) rfl (by intro v hv; simp only [List.mem_cons, List.not_mem_nil, or_false] at hv; rcases hv with rfl | rfl | rfl <;> rfl) (by unfold maxLen; omega) (by omega) hB6 (by intro h; cases h) ?_
    intro A2 c2 w7 ho7 hg7 hA7
    have hO7 : Only (fun b => l.AT.map (·.block) = some b) w6 w7 := Only.of_grown hg7 fun k e => e
    have hS7 := HS6.out.blk.only hO7 (fun e => own_blk_ne2 HS6.out.told HS6.out.blk (by decide) e)
    have hG7 := HG6.out.only hO7 (fun e => by
      obtain ⟨h1, -, -⟩ := ownG_form HS.out.told _ e
      have h2 := HggL.out
      have h3 := (Own.row HS.out.told gg e).2
      omega)
    have hSC7 : SC w7 := by rw [HSd.out]; exact ⟨⟨hS7.cell 4, hS7.frozen 4, hS7.lt⟩, ⟨hG7.cell 0, hG7.cell 1, hG7.cell 2, hG7.lt⟩⟩
    refine hK.out _ _ hSC7 (fun hHeld => ?_)
    obtain ⟨hSn, hOn⟩ := HS6.out.tellM HB6.out j a (by rw [show gotCells g t = [.int .i64 8, .int .i64 g.n, .slice t.1 g.b.length t.2] from by unfold gotCells; rw [Hgk.out, hk8]]; exact ho7) hg7
    have hRn := HR6.out.only hOn (fun b cs hb e => by
      rcases e with e | e
      · rw [e] at hb; exact absurd (blkT_eq hb.ty HS6.out.blk.ty) (by decide)
      · obtain ⟨h1, -, -⟩ := ownG_form HS6.out.told b e
        obtain ⟨cs2, h2⟩ := own_ty HS6.out.told h1
        exact absurd (blkT_eq hb.ty h2.ty) (by decide)) (fun b hb e => by
      rcases e with e | e
      · rw [e] at hb; exact absurd (blkT_eq hb HS6.out.blk.ty) (by decide)
      · obtain ⟨h1, -, -⟩ := ownG_form HS6.out.told b e
        obtain ⟨cs2, h2⟩ := own_ty HS6.out.told h1
        exact absurd (blkT_eq hb h2.ty) (by decide))
    have hgr : Grew w l.AT A2 := fun b e => by
      rcases hA7 with h | h
      · rw [h] at e; exact .inl e
      · rw [h] at e; injection e with e; have := HOw6.out.size; exact .inr (by omega)
    have Hpost := Lib.hid (show CallPost B gs AC nC cC st ms ks TA l c w (.returned (.tuple #[])) (w7.setCell ⟨gs, 4, none⟩ (.slice A2 (st.told.length + 1) c2)) from by
      unfold CallPost
      rw [Hca.out, Hcr.out]
      have hj := Hj.out
      refine ⟨rfl, m, A2, c2, t, by rw [← hj]; exact Hm.out, by rw [← hj]; exact hSn, hgr, Hfr5.out, by rw [← hj]; exact hRn, ?_⟩
      exact (HOw6.out.mono fun _ _ e => .inr (.inl e)).trans (hOn.mono fun _ _ e => e.elim .inl fun e => .inr (.inr e)))
    have t4 : w7.cell? ⟨gs, 4, none⟩ = some (.slice l.AT st.told.length l.cT) := hS7.cell 4
    have tf4 := hS7.frozen 4
    have tl7 := hS7.lt
    clear hK K hHeld ho7 hg7 hA7 hO7 hS7 hG7 hSC7 hSn hOn hRn hgr HSd
    refine fun hInv => ⟨by kernel_rfl, ?_⟩
    clear hInv
    simp only [List.drop_succ_cons, List.drop_zero]
    clear SC
    go_wp2_with fail
    go_end0
    exact Hpost.out
  by_cases hk9 : c.kind = 9
  · as_aux_lemma =>
    by_cases hn0 : c.n = 0
    · have hcr : callR c r.1 r.2 = some (.ok (⟨c.kind, 0, []⟩, r.2)) := by unfold callR; simp [hk9, hn0]
      have Hmid0 := Lib.hid (CallMid.nil r.2 HG3.out HRd3.out (Only.refl _ w3) hcr)
      have hz := fail_zero m.g m.c r.2 m.A r.1 w3 HRd3.out.rd
      rw [hn0] at bn3
      clear hcr
      go_wp2_with fail
      refine hz.mono ?_
      rintro e w4 ⟨rfl, rfl⟩
      clear hz
      have hmid := Hmid0.out
      obtain ⟨w5, hw5⟩ : ∃ w', w' = w4 := ⟨_, rfl⟩
      have hmid := show CallMid _ c m r gg w5 from by rw [hw5]; exact hmid
      have Hw5 := Lib.hid hw5
      obtain ⟨g, a, t, hcr, hgk, hG5, hB5, hfr5, hT5, hO5⟩ := hmid.out
      have Hfr5 := Lib.hid (show ∀ b o, t.1 = some ⟨b, o, none⟩ → w.heap.size ≤ b from fun b o e => Nat.le_trans Hb3.out.size (hfr5 b o e))
      rw [hk9] at hG5
      have hOw5 : Only (fun b => b = m.g) w w5 := (Only.of_fresh Hb3.out).more hO5 fun b hb e => e.resolve_right (by have := HggL.out; omega)
      have hS5 := HS.out.only hOw5 (fun b ty hb ht e => by rw [e] at hb; exact ht (blkT_eq hb HRd0.out.rd.blk.ty))
      have HS5 := Lib.hid hS5
      have HR5 := Lib.hid ((HR.out.go HS.out.sole Hm.out Hjd.out (List.getElem?_eq_some_iff.1 Hr.out).1 hOw5 hT5).1 rfl rfl (by rw [List.getD_eq_getElem?_getD, Hr.out]; rfl) g)
      have HB5 := Lib.hid hB5
      have Hcr := Lib.hid hcr
      have Hgk := Lib.hid hgk
      have HOw5 := Lib.hid hOw5
      have s4 : w5.cell? ⟨gs, 4, none⟩ = some (.slice l.AT st.told.length l.cT) := hS5.blk.cell 4
      have sf4 := hS5.blk.frozen 4
      have sl5 := hS5.blk.lt
      have k0 : w5.cell? ⟨gg, 0, none⟩ = some (.int .i64 9) := hG5.cell 0
      have k1 : w5.cell? ⟨gg, 1, none⟩ = some (.int .i64 g.n) := hG5.cell 1
      have k2 : w5.cell? ⟨gg, 2, none⟩ = some (.slice t.1 g.b.length t.2) := hG5.cell 2
      have kl := hG5.lt
      have HG5 := Lib.hid hG5
      clear hw5 hmid hcr hgk hG5 hB5 hfr5 hT5 hO5 hOw5 hS5 Hmid0
      go_upto_region 23 with (fail)
      rw [← Hw5.out]
      clear Hw5 
      obtain ⟨SC, hSCd⟩ : ∃ S : World → Prop, S = fun w' => (w'.cell? ⟨gs, 4, none⟩ = some (.slice l.AT st.told.length l.cT) ∧ w'.frozen? ⟨gs, 4, none⟩ = false ∧ gs < w'.heap.size) ∧ (w'.cell? ⟨gg, 0, none⟩ = some (.int .i64 9) ∧ w'.cell? ⟨gg, 1, none⟩ = some (.int .i64 g.n) ∧ w'.cell? ⟨gg, 2, none⟩ = some (.slice t.1 g.b.length t.2) ∧ gg < w'.heap.size) := ⟨_, rfl⟩
      have hSC : SC w5.drew := by rw [hSCd]; exact ⟨⟨s4, sf4, sl5⟩, ⟨k0, k1, k2, kl⟩⟩
      have HSC := Lib.hid (show SC w5.drew from hSC)
      have HSd := Lib.hid hSCd
      clear hSC hSCd
      refine region_heldT 8 SC (by kernel_rfl) (by decide) ?_
      refine HeadW.take 0 (v := pv gs) rfl (by kernel_rfl) (by kernel_rfl) (by kernel_rfl) (by decide) (by decide) (fun _ _ _ hL => seqB_ready hL.1) (by kernel_rfl) (by kernel_rfl) (fun _ _ _ h => h) HSC.out (.inl ⟨by kernel_rfl, by intro w hSw; rw [HSd.out] at hSw; obtain ⟨⟨e0, f0, l0⟩, ⟨e1, e2, e3, l1⟩⟩ := hSw; go_simp⟩) ?_
      simp only [Act.put, List.setIfInBounds_toArray]
      refine HeadW.take 1 (v := pv gs) rfl (by kernel_rfl) (by kernel_rfl) (by kernel_rfl) (by decide) (by decide) (fun _ _ _ hL => seqB_ready hL.1) (by kernel_rfl) (by kernel_rfl) (fun _ _ _ h => h) HSC.out (.inl ⟨by kernel_rfl, by intro w hSw; rw [HSd.out] at hSw; obtain ⟨⟨e0, f0, l0⟩, ⟨e1, e2, e3, l1⟩⟩ := hSw; go_simp⟩) ?_
      simp only [Act.put]
      refine HeadW.take 2 (v := pv gs) rfl (by kernel_rfl) (by kernel_rfl) (by kernel_rfl) (by decide) (by decide) (fun _ _ _ hL => seqB_ready hL.1) (by kernel_rfl) (by kernel_rfl) (fun _ _ _ h => h) HSC.out (.inl ⟨by kernel_rfl, by intro w hSw; rw [HSd.out] at hSw; obtain ⟨⟨e0, f0, l0⟩, ⟨e1, e2, e3, l1⟩⟩ := hSw; go_simp⟩) ?_
      simp only [Act.put]
      refine HeadW.take 3 (v := .pointer (some ⟨gs, 4, none⟩)) rfl (by kernel_rfl) (by kernel_rfl) (by kernel_rfl) (by decide) (by decide) (fun _ _ _ hL => seqB_ready hL.1) (by kernel_rfl) (by kernel_rfl) (fun _ _ _ h => h) HSC.out (.inl ⟨by kernel_rfl, by intro w hSw; rw [HSd.out] at hSw; obtain ⟨⟨e0, f0, l0⟩, ⟨e1, e2, e3, l1⟩⟩ := hSw; go_simp⟩) ?_
      simp only [Act.put]
      refine HeadW.take 4 (v := .slice l.AT st.told.length l.cT) rfl (by kernel_rfl) (by kernel_rfl) (by kernel_rfl) (by decide) (by decide) (fun _ _ _ hL => seqB_ready hL.1) (by kernel_rfl) (by kernel_rfl) (fun _ _ _ h => h) HSC.out (.inl ⟨by kernel_rfl, by intro w hSw; rw [HSd.out] at hSw; obtain ⟨⟨e0, f0, l0⟩, ⟨e1, e2, e3, l1⟩⟩ := hSw; go_simp⟩) ?_
      simp only [Act.put]
      refine HeadW.take 5 (v := .agg #[.int .i64 9, .int .i64 g.n, .slice t.1 g.b.length t.2]) rfl (by kernel_rfl) (by kernel_rfl) (by kernel_rfl) (by decide) (by decide) (fun _ _ _ hL => seqB_ready hL.1) (by kernel_rfl) (by kernel_rfl) (fun _ _ _ h => h) HSC.out (.inl ⟨by kernel_rfl, by intro w hSw; rw [HSd.out] at hSw; obtain ⟨⟨e0, f0, l0⟩, ⟨e1, e2, e3, l1⟩⟩ := hSw; go_simp⟩) ?_
      simp only [Act.put]
      clear s4 sf4 sl5 k0 k1 k2 kl
      refine headW_one 6 rfl (by decide) (by kernel_rfl) (by kernel_rfl) fun K hK => ?_
      go_simp
      obtain ⟨w6, hw6⟩ : ∃ w', w' = (w5.alloc (.cells #[.int .i64 9, .int .i64 g.n, .slice t.1 g.b.length t.2] 71)).drew := ⟨_, rfl⟩
      rw [← hw6]
      have hb56 : Below w5.heap.size w5 w6 := by rw [hw6]; exact ((Below.refl _ _).alloc (Nat.le_refl _) _).drew
      have hU6 : Blk w6 w5.heap.size 71 #[.int .i64 9, .int .i64 g.n, .slice t.1 g.b.length t.2] := by rw [hw6]; exact Blk.new w5 _ _
      have HS6 := Lib.hid (HS5.out.below hb56)
      have HG6 := Lib.hid (HG5.out.below hb56 HG5.out.lt)
      have HB6 := Lib.hid (HB5.out.only (S := fun _ => False) (Only.of_fresh hb56) fun _ _ h => h)
      have HR6 := Lib.hid (HR5.out.below hb56)
      have HU6 := Lib.hid hU6
      have HOw6 := Lib.hid (HOw5.out.trans (Only.of_fresh hb56))
      have hB6 : B ≤ w6.heap.size := by have := HOw6.out.size; omega
      have hSC6 : SC w6 := by rw [HSd.out]; exact ⟨⟨HS6.out.blk.cell 4, HS6.out.blk.frozen 4, HS6.out.blk.lt⟩, ⟨HG6.out.cell 0, HG6.out.cell 1, HG6.out.cell 2, HG6.out.lt⟩⟩
      refine hK.out _ _ hSC6 (fun hHeld => ?_)
      clear hK K hHeld hw6 hb56 hU6 hSC6 HSC
      refine headW_one 7 rfl (by decide) (by kernel_rfl) (by kernel_rfl) fun K hK => ?_
      refine wp_app (.tmp 81) (.tmp 83) eGot rfl rfl HS6.out.told (A' := some ⟨w5.heap.size, 0, none⟩) (m := 1) (c' := 1) (us := [.int .i64 9, .int .i64 g.n, .slice t.1 g.b.length t.2]) rfl (RV.of_blk HU6.out) rfl (by intro v hv; simp only [List.mem_cons, List.not_mem_nil, or_false] at hv; rcases hv with rfl | rfl | rfl <;> rfl) (by unfold maxLen; omega) (by omega) hB6 (by intro h; cases h) ?_
      intro A2 c2 w7 ho7 hg7 hA7
      have hO7 : Only (fun b => l.AT.map (·.block) = some b) w6 w7 := Only.of_grown hg7 fun k e => e
      have hS7 := HS6.out.blk.only hO7 (fun e => own_blk_ne2 HS6.out.told HS6.out.blk (by decide) e)
      have hG7 := HG6.out.only hO7 (fun e => by
        obtain ⟨h1, -, -⟩ := ownG_form HS.out.told _ e
        have h2 := HggL.out
        have h3 := (Own.row HS.out.told gg e).2
        omega)
      have hSC7 : SC w7 := by rw [HSd.out]; exact ⟨⟨hS7.cell 4, hS7.frozen 4, hS7.lt⟩, ⟨hG7.cell 0, hG7.cell 1, hG7.cell 2, hG7.lt⟩⟩
      refine hK.out _ _ hSC7 (fun hHeld => ?_)
      obtain ⟨hSn, hOn⟩ := HS6.out.tellM HB6.out j a (by rw [show gotCells g t = [.int .i64 9, .int .i64 g.n, .slice t.1 g.b.length t.2] from by unfold gotCells; rw [Hgk.out, hk9]]; exact ho7) hg7
      have hRn := HR6.out.only hOn (fun b cs hb e => by
        rcases e with e | e
        · rw [e] at hb; exact absurd (blkT_eq hb.ty HS6.out.blk.ty) (by decide)
        · obtain ⟨h1, -, -⟩ := ownG_form HS6.out.told b e
          obtain ⟨cs2, h2⟩ := own_ty HS6.out.told h1
          exact absurd (blkT_eq hb.ty h2.ty) (by decide)) (fun b hb e => by
        rcases e with e | e
        · rw [e] at hb; exact absurd (blkT_eq hb HS6.out.blk.ty) (by decide)
        · obtain ⟨h1, -, -⟩ := ownG_form HS6.out.told b e
          obtain ⟨cs2, h2⟩ := own_ty HS6.out.told h1
          exact absurd (blkT_eq hb h2.ty) (by decide))
      have hgr : Grew w l.AT A2 := fun b e => by
        rcases hA7 with h | h
        · rw [h] at e; exact .inl e
        · rw [h] at e; injection e with e; have := HOw6.out.size; exact .inr (by omega)
      have Hpost := Lib.hid (show CallPost B gs AC nC cC st ms ks TA l c w (.returned (.tuple #[])) (w7.setCell ⟨gs, 4, none⟩ (.slice A2 (st.told.length + 1) c2)) from by
        unfold CallPost
        rw [Hca.out, Hcr.out]
        have hj := Hj.out
        refine ⟨rfl, m, A2, c2, t, by rw [← hj]; exact Hm.out, by rw [← hj]; exact hSn, hgr, Hfr5.out, by rw [← hj]; exact hRn, ?_⟩
        exact (HOw6.out.mono fun _ _ e => .inr (.inl e)).trans (hOn.mono fun _ _ e => e.elim .inl fun e => .inr (.inr e)))
      have t4 : w7.cell? ⟨gs, 4, none⟩ = some (.slice l.AT st.told.length l.cT) := hS7.cell 4
      have tf4 := hS7.frozen 4
      have tl7 := hS7.lt
      clear hK K hHeld ho7 hg7 hA7 hO7 hS7 hG7 hSC7 hSn hOn hRn hgr HSd
      refine fun hInv => ⟨by kernel_rfl, ?_⟩
      clear hInv
      simp only [List.drop_succ_cons, List.drop_zero]
      clear SC
      go_wp2_with fail
      go_end0
      exact Hpost.out
    · have hcr : callR c r.1 r.2 = some (.error c.n) := by unfold callR; simp [hk9, hn0]
      have hz := fail_any m.g m.c r.2 m.A r.1 c.n hn0 w3 HRd3.out.rd
      go_wp2_with fail
      refine hz.mono ?_
      rintro e w4 ⟨rfl, ⟨aa, hrd4⟩, ho4⟩
      exact ⟨rfl, post_fell HS3.out HR3.out HRd3.out Hca.out Hm.out Hr.out Hj.out Hjd.out Hb3.out hcr hn0 hrd4 ho4⟩
  have hcr : callR c r.1 r.2 = none := by unfold callR; simp [hk1, hk2, hk3, hk4, hk5, hk6, hk7, hk8, hk9]
  have Hpost := Lib.hid (show CallPost B gs AC nC cC st ms ks TA l c w (.returned (.tuple #[])) w3 from by
    unfold CallPost
    rw [Hca.out, hcr]
    exact ⟨rfl, Hb3.out⟩)
  clear hcr
  go_wp2_with fail
  go_end0
  exact Hpost.out
end Go.Proofs.Ytefaapcekbgjoaa
