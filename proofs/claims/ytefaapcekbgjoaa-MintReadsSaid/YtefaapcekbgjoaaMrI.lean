/- mint.Read over a script's run. -/
import Derived.Test.YtefaapcekbgjoaaMrP
namespace Go.Proofs.Ytefaapcekbgjoaa
open Go.RowKit

def ReadPost (L : List PCall) (bs : List UInt8) (N : Int) (B gs : Nat) (AC : Option Addr) (nC cC : Nat) (st : PS) (ms ks : List Gm) (l : Sl7) (Z : Nat → Prop) (w : World) (e : Ending) (w' : World) : Prop :=
  ∃ (out : POut) (xs kx : List Gm) (T2 : List (Option Addr × Nat)) (l2 : Sl7), Runs L (st.push bs) N out ∧ Only (Ft gs ms l) w w' ∧ GrewL w l l2 ∧ (∀ m ∈ xs, w.heap.size ≤ m.g) ∧
    match out with
    | .ok s2 => Bnd s2 ∧ e = .returned (.int .i64 (s2.tail ms.length)) ∧ StM w' B gs AC nC cC s2 (ms ++ xs) (ks ++ kx) T2 l2 ms.length none Z
    | .thrown j f s2 => Bnd s2 ∧ f ≠ 0 ∧ ((j = ms.length ∧ e = .returned (.int .i64 f) ∧ StM w' B gs AC nC cC s2 (ms ++ xs) (ks ++ kx) T2 l2 ms.length none Z) ∨
        (j < ms.length ∧ StM w' B gs AC nC cC s2 (ms ++ xs) (ks ++ kx) T2 l2 ms.length (some (j, f)) Z ∧ ∃ m, ms[j]? = some m ∧ Threw (endedE m.g).v e))
/-- What run left, ahead of the deferred function. -/
structure MidR (L : List PCall) (bs : List UInt8) (N : Int) (B gs : Nat) (AC : Option Addr) (nC cC : Nat) (st : PS) (ms ks : List Gm) (l : Sl7) (Z : Nat → Prop) (w3 : World) (m0 : Gm) (v : World) (out : POut) (xs kx : List Gm) (T2 : List (Option Addr × Nat)) (l2 : Sl7) (x : Option (Nat × Int)) : Prop where
  runs : Runs L (st.push bs) N out
  grew : ∃ w1 : World, w3.heap.size < w1.heap.size ∧ GrewL w1 l l2 ∧ ∀ m ∈ xs, w1.heap.size ≤ m.g
  low : w3.heap.size < m0.g
  bnd : Bnd out.st
  st : StM v B gs AC nC cC out.st (ms ++ m0 :: xs) (ks ++ m0 :: kx) T2 l2 (ms.length + 1) x Z
def TR (L : List PCall) (bs : List UInt8) (N : Int) (B gs : Nat) (AC : Option Addr) (nC cC : Nat) (st : PS) (ms ks : List Gm) (l : Sl7) (Z : Nat → Prop) (w3 : World) (g : Nat) (A : Option Addr) (c a : Nat) (f : Int) (v : World) : Prop :=
  (∃ s2 xs kx T2 l2, MidR L bs N B gs AC nC cC st ms ks l Z w3 ⟨g, A, c⟩ v (.ok s2) xs kx T2 l2 none ∧ f = 0 ∧ s2.rs[ms.length]? = some (bs, a)) ∨
  (∃ s2 xs kx T2 l2, MidR L bs N B gs AC nC cC st ms ks l Z w3 ⟨g, A, c⟩ v (.thrown ms.length f s2) xs kx T2 l2 (some (ms.length, f)) ∧ f ≠ 0)
def XR (L : List PCall) (bs : List UInt8) (N : Int) (B gs : Nat) (AC : Option Addr) (nC cC : Nat) (st : PS) (ms ks : List Gm) (l : Sl7) (Z : Nat → Prop) (w3 : World) (g : Nat) (A : Option Addr) (c g' : Nat) (v : World) : Prop :=
  ∃ j f s2 xs kx T2 l2, MidR L bs N B gs AC nC cC st ms ks l Z w3 ⟨g, A, c⟩ v (.thrown j f s2) xs kx T2 l2 (some (j, f)) ∧ f ≠ 0 ∧ j < ms.length ∧ ∃ m, ms[j]? = some m ∧ m.g = g'
section
variable {w w' : World} {B gs nC cC : Nat} {AC : Option Addr} {st : PS} {ms ks : List Gm} {TA : List (Option Addr × Nat)} {l : Sl7} {t : Nat} {Z : Nat → Prop}
theorem StM.gm (h : StM w B gs AC nC cC st ms ks TA l ms.length none Z) {m : Gm} (hm : m ∈ ms) : BlkT w m.g 105 := by
  obtain ⟨i, hi⟩ := List.mem_iff_getElem?.1 hm
  have hl := (List.getElem?_eq_some_iff.1 hi).1
  exact (h.rd.good i m _ hl hi (List.getElem?_eq_getElem (by rw [← h.sc.rlen]; exact hl)) (fun y e => by cases e)).1.rd.blk.ty
theorem StM.gk (h : StM w B gs AC nC cC st ms ks TA l ms.length none Z) {m : Gm} (hm : m ∈ ks) : BlkT w m.g 105 := by
  rcases h.rd.over m hm with ⟨i, _, h2⟩ | ⟨bs, a, f, h1⟩
  · exact h.gm (List.mem_of_getElem? h2)
  · exact h1.rd.blk.ty
theorem StM.ftlt (h : StM w B gs AC nC cC st ms ks TA l ms.length none Z) {b : Nat} (hb : Ft gs ms l b) : b < w.heap.size := by
  rcases hb with h1 | h1 | h1 | h1 | h1 | ⟨m, hm, h1⟩
  · rw [h1]; exact h.sc.blk.lt
  · exact (Own.row h.sc.rows b h1).2
  · exact (Own.row h.sc.kept b h1).2
  · exact (Own.row h.sc.told b h1).2
  · exact (Own.row h.sc.ret b h1).2
  · rw [← h1]; exact (h.gm hm).lt
end
theorem read_script {L : List PCall} {B gs nC cC m : Nat} {AC : Option Addr} (hrun : RunC L B gs AC nC cC m) (st : PS) (ms ks : List Gm) (TA : List (Option Addr × Nat)) (l : Sl7) (Z : Nat → Prop) (w : World) (p : Part) (gf : Nat) (N : Int) (hp : Sl w p) (hl : p.ys.length ≤ 140737488351232)
    (hleft : min L.length 400 - st.at_ ≤ m) (hC : CallsM w B AC L) (hB : B ≤ w.heap.size) (h : StM w B gs AC nC cC st ms ks TA l ms.length none Z) (b1 : st.told.length ≤ st.at_) (b2 : st.ret.length + ms.length ≤ st.at_) (b3 : st.many ≤ st.at_) (b4 : st.at_ ≤ 400)
    (hF : Blk w gf 62 #[pv gs, .int .i64 N]) (hZ : ∀ b, Z b → b < w.heap.size) (hd : ms.length < 20) :
    Calls Try.prog 30 #[.slice p.A p.ys.length p.c, .func (.func 36) #[pv gf] #[]] w (ReadPost L p.ys N B gs AC nC cC st ms ks l Z w) := by
  refine (read_out p w hp hl 36 #[pv gf] #[] (Ft gs ms l) (TR L p.ys N B gs AC nC cC st ms ks l Z w) (XR L p.ys N B gs AC nC cC st ms ks l Z w) (fun g wx => by go_simp) (fun g c A w1 hg hb1 hrd hA => ?_) (fun b hb => h.ftlt hb)).mono ?_
  · have hz1 := hb1.size
    have hw1 : w.heap.size < w1.heap.size := by have := hrd.blk.lt; omega
    refine (hrun st ms ks TA l Z gf N ⟨g, A, c⟩ p.ys w1 hleft (hC.only (S := fun _ => False) (Only.of_fresh hb1) (fun _ e => e.elim)) (by omega) (h.below hb1) b1 b2 b3 b4 (hF.below hb1 hF.lt) ⟨hrd, fun b o e => by obtain ⟨cs, h2⟩ := (hA b o e).2.2; exact h2.ty⟩ hl (by show B ≤ g; omega)
      (fun m hm => by have := (h.gk hm).lt; show m.g ≠ g; omega) (fun m hm => by have := (h.gm hm).lt; show m.g ≠ g; omega) (fun b o e hz => by have := hZ b hz; have := (hA b o e).1; omega) (fun b hz => by have := hZ b hz; omega) hd).mono ?_
    rintro e w2 ⟨out, xs, kx, T2, l2, hR, hO, hG, hx, hm⟩
    have hlen : (st.push p.ys).rs.length = ms.length + 1 := by
      show (st.rs ++ [(p.ys, 0)]).length = _
      rw [List.length_append, ← h.sc.rlen]; rfl
    have hkeep : (out.st.rs[ms.length]?).map Prod.fst = some p.ys := by
      rw [hR.keeps ms.length (by omega)]
      show ((st.rs ++ [(p.ys, 0)])[ms.length]?).map Prod.fst = _
      rw [h.sc.rlen, List.getElem?_append_right (Nat.le_refl _), Nat.sub_self]; rfl
    obtain ⟨r, hr, hr1⟩ := Option.map_eq_some_iff.1 hkeep
    have hi0 : ∀ xs : List Gm, (ms ++ (⟨g, A, c⟩ : Gm) :: xs)[ms.length]? = some ⟨g, A, c⟩ := fun xs => by rw [List.getElem?_append_right (Nat.le_refl _), Nat.sub_self]; rfl
    cases out with
    | ok s2 =>
      obtain ⟨hbd, rfl, rfl, hSt⟩ := hm
      obtain ⟨hT, -⟩ := hSt.rd.good ms.length ⟨g, A, c⟩ r (Nat.lt_succ_self _) (hi0 []) hr (fun y e => by cases e)
      refine ⟨r.2, false, 0, by rw [← hr1]; exact hT.rd, hO, .inl ⟨rfl, .inl ⟨s2, [], kx, T2, l2, ⟨hR, ⟨w1, hw1, hG, fun m hm => by cases hm⟩, hg, hbd, hSt⟩, rfl, ?_⟩⟩⟩
      rw [← hr1]; exact hr
    | thrown j f s2 =>
      obtain ⟨hbd, hj, hf, hSt, m, hmj, hth⟩ := hm
      by_cases hjd : j = ms.length
      · subst hjd
        obtain ⟨a, hT⟩ := hSt.rd.bad (ms.length, f) ⟨g, A, c⟩ r rfl (hi0 xs) hr
        rw [hi0 xs] at hmj
        injection hmj with hmj
        subst hmj
        exact ⟨a, true, f, by rw [← hr1]; exact hT.rd, hO, .inr (.inl ⟨hth, .inr ⟨s2, xs, kx, T2, l2, ⟨hR, ⟨w1, hw1, hG, hx⟩, hg, hbd, hSt⟩, hf⟩⟩)⟩
      · have hjl : j < ms.length := by omega
        obtain ⟨hT, -⟩ := hSt.rd.good ms.length ⟨g, A, c⟩ r (Nat.lt_succ_self _) (hi0 xs) hr (fun y e => by injection e with e; rw [← e]; exact hjd)
        have hmj2 := hmj
        rw [List.getElem?_append_left hjl] at hmj2
        have hne : m.g ≠ g := hSt.sc.sole j ms.length m ⟨g, A, c⟩ hmj (hi0 xs) hjd
        have hbm : BlkT w1 m.g 105 := (h.below hb1).gm (List.mem_of_getElem? hmj2)
        have hrs : j < s2.rs.length := by have := (List.getElem?_eq_some_iff.1 hr).1; change ms.length < s2.rs.length at this; omega
        obtain ⟨a, hTm⟩ := hSt.rd.bad (j, f) m _ rfl hmj (List.getElem?_eq_getElem hrs)
        exact ⟨r.2, false, 0, by rw [← hr1]; exact hT.rd, hO, .inr (.inr ⟨m.g, hne, ⟨_, _, hTm.rd.blk⟩, hth, j, f, s2, xs, kx, T2, l2, ⟨hR, ⟨w1, hw1, hG, hx⟩, hg, hbd, hSt⟩, hf, hjl, m, hmj2, rfl⟩)⟩
  · rintro e w4 ⟨g, A, c, a, f, v, hg, hA, hrd, hO, hcase⟩
    have hae : ∀ {l2 : Sl7} {w1 : World}, w.heap.size < w1.heap.size → GrewL w1 l l2 → ∀ b, l2.AE.map (·.block) = some b → b ≠ w.heap.size := fun hw1 hG b e1 e2 => by
      rcases hG.e b e1 with h1 | h1
      · have := (Own.row h.sc.ret b h1).2; omega
      · omega
    have hgrew : ∀ {l2 : Sl7} {w1 : World}, w.heap.size < w1.heap.size → GrewL w1 l l2 → GrewL w l l2 := fun hw1 hG => (GrewL.refl w l).trans hG (by omega)
    have hmxs : ∀ {xs : List Gm} {w1 : World}, w.heap.size < w1.heap.size → (∀ m ∈ xs, w1.heap.size ≤ m.g) → ∀ m ∈ (⟨g, A, c⟩ : Gm) :: xs, w.heap.size ≤ m.g := fun hw1 hx m hm => by
      rcases List.mem_cons.1 hm with rfl | hm
      · show w.heap.size ≤ g; omega
      · have := hx m hm; omega
    have hi0 : ∀ xs : List Gm, (ms ++ (⟨g, A, c⟩ : Gm) :: xs)[ms.length]? = some ⟨g, A, c⟩ := fun xs => by rw [List.getElem?_append_right (Nat.le_refl _), Nat.sub_self]; rfl
    have hty4 : ∀ {Q : Nat → Prop} {bs2 : List UInt8} {a2 : Nat} {o2 : Bool} {f2 f3 : Int}, RdT v ⟨g, A, c⟩ bs2 a2 o2 f2 → Only (fun b => b = g ∨ Q b) v w4 → (∀ b, Q b → BlkT v b 37) → Rd w4 g A c p.ys a true f3 → RdT w4 ⟨g, A, c⟩ p.ys a true f3 := fun hTv hOv hq hr => ⟨hr, fun b o e => (hTv.ty b o e).only hOv fun e2 => by
      rcases e2 with e2 | e2
      · have h1 := hTv.ty b o e; rw [e2] at h1; exact absurd (blkT_eq h1 hTv.rd.blk.ty) (by decide)
      · exact absurd (blkT_eq (hTv.ty b o e) (hq b e2)) (by decide)⟩
    rcases hcase with ⟨hT, ⟨cs, hge⟩, rfl, hOv⟩ | ⟨g', hgg, hth, hX, hOv⟩
    · have hq : ∀ b, b = w.heap.size → BlkT v b 37 := fun b e => by rw [e]; exact hge.ty
      rcases hT with ⟨s2, xs, kx, T2, l2, hM, rfl, hr⟩ | ⟨s2, xs, kx, T2, l2, hM, hf⟩
      · obtain ⟨w1, hw1, hG, hx⟩ := hM.grew
        obtain ⟨hTv, -⟩ := hM.st.rd.good ms.length ⟨g, A, c⟩ _ (Nat.lt_succ_self _) (hi0 xs) hr (fun y e => by cases e)
        have hcl := hM.st.close hOv hq (fun b e1 e2 => hae hw1 hG b e1 e2) (hty4 hTv hOv hq hrd)
        refine ⟨.ok s2, ⟨g, A, c⟩ :: xs, ⟨g, A, c⟩ :: kx, T2, l2, hM.runs, hO, hgrew hw1 hG, hmxs hw1 hx, hM.bnd, ?_, hcl⟩
        have ht : s2.tail ms.length = readE 0 a p.ys.length := by
          unfold PS.tail readE
          rw [List.getD_eq_getElem?_getD, hr]
          rfl
        rw [ht]
      · obtain ⟨w1, hw1, hG, hx⟩ := hM.grew
        have hr0 : ms.length < s2.rs.length := by have := hM.st.sc.rlen; rw [List.length_append, List.length_cons] at this; change _ = s2.rs.length at this; omega
        obtain ⟨a2, hTv⟩ := hM.st.rd.bad (ms.length, f) ⟨g, A, c⟩ _ rfl (hi0 xs) (List.getElem?_eq_getElem hr0)
        have hcl := hM.st.close hOv hq (fun b e1 e2 => hae hw1 hG b e1 e2) (hty4 hTv hOv hq hrd)
        have hcl2 : StM w4 B gs AC nC cC s2 (ms ++ (⟨g, A, c⟩ : Gm) :: xs) (ks ++ (⟨g, A, c⟩ : Gm) :: kx) T2 l2 ms.length none Z := by
          have h2 := hcl
          rw [show ((some (ms.length, f) : Option (Nat × Int)).bind fun y => if y.1 < ms.length then some y else none) = none from if_neg (Nat.lt_irrefl _)] at h2
          exact h2
        refine ⟨.thrown ms.length f s2, ⟨g, A, c⟩ :: xs, ⟨g, A, c⟩ :: kx, T2, l2, hM.runs, hO, hgrew hw1 hG, hmxs hw1 hx, hM.bnd, hf, .inl ⟨rfl, ?_, hcl2⟩⟩
        rw [show readE f a p.ys.length = f from if_pos hf]
    · obtain ⟨j, f2, s2, xs, kx, T2, l2, hM, hf, hj, m2, hm2, rfl⟩ := hX
      obtain ⟨w1, hw1, hG, hx⟩ := hM.grew
      have hr0 : ms.length < s2.rs.length := by have := hM.st.sc.rlen; rw [List.length_append, List.length_cons] at this; change _ = s2.rs.length at this; omega
      obtain ⟨hTv, -⟩ := hM.st.rd.good ms.length ⟨g, A, c⟩ _ (Nat.lt_succ_self _) (hi0 xs) (List.getElem?_eq_getElem hr0) (fun y e => by injection e with e; rw [← e]; show j ≠ ms.length; omega)
      have hOv2 : Only (fun b => b = g ∨ False) v w4 := hOv.mono fun _ _ e => .inl e
      have hcl := hM.st.close (Q := fun _ => False) hOv2 (fun b e => e.elim) (fun b _ e => e) (hty4 hTv hOv2 (fun b e => e.elim) hrd)
      have hcl2 : StM w4 B gs AC nC cC s2 (ms ++ (⟨g, A, c⟩ : Gm) :: xs) (ks ++ (⟨g, A, c⟩ : Gm) :: kx) T2 l2 ms.length (some (j, f2)) Z := by
        have h2 := hcl
        rw [show ((some (j, f2) : Option (Nat × Int)).bind fun y => if y.1 < ms.length then some y else none) = some (j, f2) from if_pos hj] at h2
        exact h2
      exact ⟨.thrown j f2 s2, ⟨g, A, c⟩ :: xs, ⟨g, A, c⟩ :: kx, T2, l2, hM.runs, hO, hgrew hw1 hG, hmxs hw1 hx, hM.bnd, hf, .inr ⟨hj, hcl2, m2, hm2, hth⟩⟩
end Go.Proofs.Ytefaapcekbgjoaa
