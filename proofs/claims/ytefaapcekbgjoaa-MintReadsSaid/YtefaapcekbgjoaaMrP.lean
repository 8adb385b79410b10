/- What a run of a script leaves behind: plain. -/
import Derived.Test.YtefaapcekbgjoaaMrR
namespace Go.Proofs.Ytefaapcekbgjoaa
open Go.RowKit

/-- What a run may write of what was there. -/
def Ft (gs : Nat) (ms : List Gm) (l : Sl7) (b : Nat) : Prop := b = gs ∨ l.AR.map (·.block) = some b ∨ l.AK.map (·.block) = some b ∨ l.AT.map (·.block) = some b ∨ l.AE.map (·.block) = some b ∨ ∃ m ∈ ms, m.g = b
structure GrewL (w : World) (l l' : Sl7) : Prop where
  r : Grew w l.AR l'.AR
  k : Grew w l.AK l'.AK
  t : Grew w l.AT l'.AT
  e : Grew w l.AE l'.AE
theorem Grew.refl (w : World) (A : Option Addr) : Grew w A A := fun _ e => .inl e
theorem Grew.trans {w w' : World} {A A' A'' : Option Addr} (h : Grew w A A') (k : Grew w' A' A'') (hz : w.heap.size ≤ w'.heap.size) : Grew w A A'' := fun b e => by
  rcases k b e with h1 | h1
  · exact h b h1
  · exact .inr (by omega)
theorem GrewL.refl (w : World) (l : Sl7) : GrewL w l l := ⟨.refl _ _, .refl _ _, .refl _ _, .refl _ _⟩
theorem GrewL.trans {w w' : World} {l l' l'' : Sl7} (h : GrewL w l l') (k : GrewL w' l' l'') (hz : w.heap.size ≤ w'.heap.size) : GrewL w l l'' := ⟨h.r.trans k.r hz, h.k.trans k.k hz, h.t.trans k.t hz, h.e.trans k.e hz⟩
theorem Ft.back {w : World} {gs b : Nat} {ms xs : List Gm} {l l' : Sl7} (h : Ft gs (ms ++ xs) l' b) (hl : GrewL w l l') (hx : ∀ m ∈ xs, w.heap.size ≤ m.g) (hb : b < w.heap.size) : Ft gs ms l b := by
  rcases h with h | h | h | h | h | ⟨m, hm, e⟩
  · exact .inl h
  · rcases hl.r b h with h1 | h1
    · exact .inr (.inl h1)
    · omega
  · rcases hl.k b h with h1 | h1
    · exact .inr (.inr (.inl h1))
    · omega
  · rcases hl.t b h with h1 | h1
    · exact .inr (.inr (.inr (.inl h1)))
    · omega
  · rcases hl.e b h with h1 | h1
    · exact .inr (.inr (.inr (.inr (.inl h1))))
    · omega
  · rcases List.mem_append.1 hm with hm | hm
    · exact .inr (.inr (.inr (.inr (.inr ⟨m, hm, e⟩))))
    · have := hx m hm
      omega
/-- The script with its readers, while Z's blocks (bytes that are lent) hold nothing of theirs. -/
structure StM (w : World) (B gs : Nat) (AC : Option Addr) (nC cC : Nat) (st : PS) (ms ks : List Gm) (TA : List (Option Addr × Nat)) (l : Sl7) (t : Nat) (x : Option (Nat × Int)) (Z : Nat → Prop) : Prop where
  sc : ScM w B gs AC nC cC st ms ks TA l
  rd : RdsM w st ms ks t x
  sub : ∀ (i : Nat) (m : Gm), i < t → ms[i]? = some m → m ∈ ks
  xt : ∀ y, x = some y → y.1 < t
  one : ∀ m ∈ ks, ∀ n ∈ ks, m.g = n.g → m = n
  avt : ∀ q ∈ TA, ∀ b o, q.1 = some ⟨b, o, none⟩ → ¬ Z b
  avr : ∀ m ∈ ks, ∀ b o, m.A = some ⟨b, o, none⟩ → ¬ Z b
section
variable {w w' : World} {B gs nC cC : Nat} {AC : Option Addr} {st : PS} {ms ks : List Gm} {TA : List (Option Addr × Nat)} {l : Sl7} {t : Nat} {x : Option (Nat × Int)} {Z : Nat → Prop}
theorem StM.ft (h : StM w B gs AC nC cC st ms ks TA l t x Z) {b : Nat} (hb : Ft gs ms l b) : B ≤ b := by
  rcases hb with h1 | h1 | h1 | h1 | h1 | ⟨m, hm, h1⟩
  · rw [h1]; exact h.sc.low
  · exact (Own.row h.sc.rows b h1).1
  · exact (Own.row h.sc.kept b h1).1
  · exact (Own.row h.sc.told b h1).1
  · exact (Own.row h.sc.ret b h1).1
  · rw [← h1]; exact h.sc.base m hm
theorem StM.below (h : StM w B gs AC nC cC st ms ks TA l t x Z) (hb : Below w.heap.size w w') : StM w' B gs AC nC cC st ms ks TA l t x Z := ⟨h.sc.below hb, h.rd.below hb, h.sub, h.xt, h.one, h.avt, h.avr⟩
/-- Writes that leave the script's lists, its readers and all bytes alone. -/
theorem StM.only {S : Nat → Prop} (h : StM w B gs AC nC cC st ms ks TA l t x Z) (ho : Only S w w') (h1 : ∀ b ty, BlkT w b ty → ty ≠ 5 → ty ≠ 37 → ¬ S b) (h2 : ∀ b, l.AE.map (·.block) = some b → ¬ S b) (h3 : ∀ b, S b → BlkT w b 5 → Z b) : StM w' B gs AC nC cC st ms ks TA l t x Z := by
  have own : ∀ {e : TypeId} {sz n c : Nat} {A : Option Addr} {vs : List Value}, e ≠ 5 → e ≠ 37 → Own w B e sz A n c vs → Own w' B e sz A n c vs := fun he he2 ho2 => Own.only ho2 ho fun b o e2 => by
    obtain ⟨cs, hb⟩ := own_ty ho2 e2
    exact h1 b _ hb.ty he he2
  have rd : ∀ {m : Gm} {bs : List UInt8} {a : Nat} {o : Bool} {f : Int}, m ∈ ks → RdT w m bs a o f → RdT w' m bs a o f := fun hm hr =>
    ⟨hr.rd.only ho (h1 _ _ hr.rd.blk.ty (by decide) (by decide)) fun b o e hs => h.avr _ hm b o e (h3 b hs (hr.ty b o e)), fun b o e => (hr.ty b o e).only ho fun hs => h.avr _ hm b o e (h3 b hs (hr.ty b o e))⟩
  refine ⟨⟨h.sc.blk.only ho (h1 gs _ h.sc.blk.ty (by decide) (by decide)), h.sc.low, own (by decide) (by decide) h.sc.rows, own (by decide) (by decide) h.sc.kept, h.sc.apart, own (by decide) (by decide) h.sc.told, h.sc.tlen, fun i y q h4 h5 => ?_, Own.only h.sc.ret ho fun b o e => h2 b (by rw [e]; rfl), h.sc.rlen, h.sc.many, h.sc.sole, h.sc.base⟩,
    ⟨fun i m r h4 h5 h6 h7 => ⟨rd (h.sub i m h4 h5) (h.rd.good i m r h4 h5 h6 h7).1, (h.rd.good i m r h4 h5 h6 h7).2⟩, fun y m r h4 h5 h7 => ?_, fun n hn => ?_⟩, h.sub, h.xt, h.one, h.avt, h.avr⟩
  · have hq := h.sc.tb i y q h4 h5
    have hm := List.mem_of_getElem? h5
    exact ⟨hq.rv.only ho fun _ b o e hs => h.avt q hm b o e (h3 b hs (hq.ty b o e)), fun b o e => (hq.ty b o e).only ho fun hs => h.avt q hm b o e (h3 b hs (hq.ty b o e))⟩
  · obtain ⟨a, h6⟩ := h.rd.bad y m r h4 h5 h7
    exact ⟨a, rd (h.sub y.1 m (h.xt y h4) h5) h6⟩
  · rcases h.rd.over n hn with h4 | ⟨bs, a, f, h4⟩
    · exact .inl h4
    · exact .inr ⟨bs, a, f, rd hn h4⟩
end
/-- The calls of the script, in memory that nobody here writes. -/
structure CallsM (w : World) (B : Nat) (AC : Option Addr) (L : List PCall) : Prop where
  out : ∃ TC : List (Option Addr × Nat), TC.length = L.length ∧ RV w AC ((L.zip TC).flatMap fun x => callCells x.1 x.2) ∧ (0 < L.length → ∀ b o, AC = some ⟨b, o, none⟩ → b < B) ∧
    ∀ (i : Nat) (c : PCall) (t : Option Addr × Nat), L[i]? = some c → TC[i]? = some t → Sl w ⟨t.1, t.2, c.b⟩ ∧ c.b.length ≤ 140737488351232 ∧ (0 < c.b.length → ∀ b o, t.1 = some ⟨b, o, none⟩ → b < B)
theorem CallsM.only {S : Nat → Prop} {w w' : World} {B : Nat} {AC : Option Addr} {L : List PCall} (h : CallsM w B AC L) (ho : Only S w w') (hS : ∀ b, S b → B ≤ b) : CallsM w' B AC L := by
  obtain ⟨TC, h1, h2, h3, h4⟩ := h.out
  refine ⟨TC, h1, h2.only ho (fun hn b o e hs => by have := h3 (Nat.pos_of_ne_zero fun h0 => hn (by rw [List.eq_nil_of_length_eq_zero h0]; rfl)) b o e; have := hS b hs; omega), h3, fun i c t h5 h6 => ?_⟩
  obtain ⟨h7, h8, h9⟩ := h4 i c t h5 h6
  exact ⟨h7.only ho (fun b o h0 e hs => by have := h9 h0 b o e; have := hS b hs; omega), h8, h9⟩
def PS.retd (s : PS) (e : Int) : PS := ⟨s.at_, s.rs, s.told, s.ret ++ [e], s.many⟩
def Bnd (st : PS) : Prop := st.told.length ≤ st.at_ ∧ st.ret.length + st.rs.length ≤ st.at_ + 1 ∧ st.many ≤ st.at_ + 1 ∧ st.at_ ≤ 400
def RunPost (L : List PCall) (N : Int) (B gs : Nat) (AC : Option Addr) (nC cC : Nat) (st : PS) (ms ks : List Gm) (l : Sl7) (Z : Nat → Prop) (m0 : Gm) (bs : List UInt8) (w1 : World) (e : Ending) (w2 : World) : Prop :=
  ∃ (out : POut) (xs kx : List Gm) (T2 : List (Option Addr × Nat)) (l2 : Sl7), Runs L (st.push bs) N out ∧ Only (fun b => b = m0.g ∨ Ft gs ms l b) w1 w2 ∧ GrewL w1 l l2 ∧ (∀ m ∈ xs, w1.heap.size ≤ m.g) ∧
    match out with
    | .ok s2 => Bnd s2 ∧ e = .returned (.tuple #[]) ∧ xs = [] ∧ StM w2 B gs AC nC cC s2 (ms ++ [m0]) (ks ++ m0 :: kx) T2 l2 (ms.length + 1) none Z
    | .thrown j f s2 => Bnd s2 ∧ j ≤ ms.length ∧ f ≠ 0 ∧ StM w2 B gs AC nC cC s2 (ms ++ m0 :: xs) (ks ++ m0 :: kx) T2 l2 (ms.length + 1) (some (j, f)) Z ∧ ∃ m, (ms ++ m0 :: xs)[j]? = some m ∧ Threw (endedE m.g).v e
def InnerPost (L : List PCall) (c : PCall) (B gs : Nat) (AC : Option Addr) (nC cC : Nat) (st : PS) (ms ks : List Gm) (l : Sl7) (Z : Nat → Prop) (w : World) (e : Ending) (w' : World) : Prop :=
  ∃ (out : POut) (xs kx : List Gm) (T2 : List (Option Addr × Nat)) (l2 : Sl7), Runs L (st.push c.b) c.n out ∧ Only (Ft gs ms l) w w' ∧ GrewL w l l2 ∧ (∀ m ∈ xs, w.heap.size ≤ m.g) ∧
    match out with
    | .ok s2 => Bnd (s2.pop ms.length (s2.tail ms.length)) ∧ e = .returned (.tuple #[]) ∧ StM w' B gs AC nC cC (s2.retd (s2.tail ms.length)) (ms ++ xs) (ks ++ kx) T2 l2 ms.length none Z
    | .thrown j f s2 => f ≠ 0 ∧ ((j = ms.length ∧ Bnd (s2.pop ms.length f) ∧ e = .returned (.tuple #[]) ∧ StM w' B gs AC nC cC (s2.retd f) (ms ++ xs) (ks ++ kx) T2 l2 ms.length none Z) ∨
        (j < ms.length ∧ Bnd s2 ∧ StM w' B gs AC nC cC s2 (ms ++ xs) (ks ++ kx) T2 l2 ms.length (some (j, f)) Z ∧ ∃ m, ms[j]? = some m ∧ Threw (endedE m.g).v e))
/-- What run does, while at most m calls are left. -/
def RunC (L : List PCall) (B gs : Nat) (AC : Option Addr) (nC cC m : Nat) : Prop :=
  ∀ (st : PS) (ms ks : List Gm) (TA : List (Option Addr × Nat)) (l : Sl7) (Z : Nat → Prop) (gf : Nat) (N : Int) (m0 : Gm) (bs : List UInt8) (w1 : World), min L.length 400 - st.at_ ≤ m → CallsM w1 B AC L → B ≤ w1.heap.size →
    StM w1 B gs AC nC cC st ms ks TA l ms.length none Z → st.told.length ≤ st.at_ → st.ret.length + ms.length ≤ st.at_ → st.many ≤ st.at_ → st.at_ ≤ 400 → Blk w1 gf 62 #[pv gs, .int .i64 N] → RdT w1 m0 bs 0 false 0 → bs.length ≤ 140737488351232 → B ≤ m0.g →
    (∀ m ∈ ks, m.g ≠ m0.g) → (∀ m ∈ ms, m.g ≠ m0.g) → (∀ b o, m0.A = some ⟨b, o, none⟩ → ¬ Z b) → (∀ b, Z b → b < w1.heap.size) → ms.length < 20 →
    Calls Try.prog 36 #[pv gf, pv m0.g] w1 (RunPost L N B gs AC nC cC st ms ks l Z m0 bs w1)
section
variable {w w' : World} {B gs nC cC : Nat} {AC : Option Addr} {st : PS} {ms ks xs kx : List Gm} {TA : List (Option Addr × Nat)} {l : Sl7} {x : Option (Nat × Int)} {Z : Nat → Prop} {m0 : Gm} {Q : Nat → Prop}
/-- The innermost reader's Read ends. -/
theorem StM.close (h : StM w B gs AC nC cC st (ms ++ m0 :: xs) (ks ++ m0 :: kx) TA l (ms.length + 1) x Z) (ho : Only (fun b => b = m0.g ∨ Q b) w w') (hge : ∀ b, Q b → BlkT w b 37) (hae : ∀ b, l.AE.map (·.block) = some b → ¬ Q b) {bs : List UInt8} {a : Nat} {f : Int} (hm0 : RdT w' m0 bs a true f) :
    StM w' B gs AC nC cC st (ms ++ m0 :: xs) (ks ++ m0 :: kx) TA l ms.length (x.bind fun y => if y.1 < ms.length then some y else none) Z := by
  have hi0 : (ms ++ m0 :: xs)[ms.length]? = some m0 := by rw [List.getElem?_append_right (Nat.le_refl _), Nat.sub_self]; rfl
  have hrl := h.sc.rlen
  -- the reader's block is a reader's, now as before
  have hg0 : BlkT w m0.g 105 := by
    have hr0 : ms.length < st.rs.length := by rw [← hrl]; simp
    cases hxe : x with
    | none => exact (h.rd.good ms.length m0 _ (Nat.lt_succ_self _) hi0 (List.getElem?_eq_getElem hr0) (fun y e => by rw [hxe] at e; cases e)).1.rd.blk.ty
    | some y =>
      by_cases hy : y.1 = ms.length
      · obtain ⟨a2, h2⟩ := h.rd.bad y m0 _ hxe (by rw [hy]; exact hi0) (by rw [hy]; exact List.getElem?_eq_getElem hr0)
        exact h2.rd.blk.ty
      · exact (h.rd.good ms.length m0 _ (Nat.lt_succ_self _) hi0 (List.getElem?_eq_getElem hr0) (fun z e => by rw [hxe] at e; injection e with e; rw [← e]; exact hy)).1.rd.blk.ty
  have hty : ∀ b ty, BlkT w b ty → ty ≠ 105 → ty ≠ 37 → ¬ (b = m0.g ∨ Q b) := fun b ty hb h1 h2 e => by
    rcases e with e | e
    · rw [e] at hb; exact h1 (blkT_eq hb hg0)
    · exact h2 (blkT_eq hb (hge b e))
  have own : ∀ {e : TypeId} {sz n c : Nat} {A : Option Addr} {vs : List Value}, e ≠ 105 → e ≠ 37 → Own w B e sz A n c vs → Own w' B e sz A n c vs := fun he he2 ho2 => Own.only ho2 ho fun b o e2 => by
    obtain ⟨cs, hb⟩ := own_ty ho2 e2
    exact hty b _ hb.ty he he2
  have rd : ∀ {m : Gm} {bs : List UInt8} {a : Nat} {o : Bool} {f : Int}, m.g ≠ m0.g → RdT w m bs a o f → RdT w' m bs a o f := fun hm hr =>
    hr.only ho (fun e => by
      rcases e with e | e
      · exact hm e
      · exact absurd (blkT_eq hr.rd.blk.ty (hge _ e)) (by decide)) fun b hb => hty b _ hb (by decide) (by decide)
  have hne : ∀ (i : Nat) (m : Gm), i < ms.length → (ms ++ m0 :: xs)[i]? = some m → m.g ≠ m0.g := fun i m hi hm => h.sc.sole i ms.length m m0 hm hi0 (by omega)
  refine ⟨⟨h.sc.blk.only ho (hty gs _ h.sc.blk.ty (by decide) (by decide)), h.sc.low, own (by decide) (by decide) h.sc.rows, own (by decide) (by decide) h.sc.kept, h.sc.apart, own (by decide) (by decide) h.sc.told, h.sc.tlen, fun i y q h4 h5 => (h.sc.tb i y q h4 h5).only ho fun b hb => hty b _ hb (by decide) (by decide),
    Own.only h.sc.ret ho fun b o e e2 => ?_, h.sc.rlen, h.sc.many, h.sc.sole, h.sc.base⟩, ⟨fun i m r h4 h5 h6 h7 => ?_, fun y m r h4 h5 h7 => ?_, fun n hn => ?_⟩, fun i m h4 h5 => h.sub i m (by omega) h5, fun y e => ?_, h.one, h.avt, h.avr⟩
  · rcases e2 with e2 | e2
    · obtain ⟨cs, hb⟩ := own_ty h.sc.ret e
      rw [e2] at hb
      exact absurd (blkT_eq hb.ty hg0) (by decide)
    · exact hae b (by rw [e]; rfl) e2
  · obtain ⟨h8, h9⟩ := h.rd.good i m r (by omega) h5 h6 (fun y e => fun e2 => by
      have h10 := h7 y (by rw [e]; simp [e2, h4])
      exact h10 e2)
    exact ⟨rd (hne i m h4 h5) h8, h9⟩
  · cases hxe : x with
    | none => rw [hxe] at h4; cases h4
    | some z =>
      rw [hxe] at h4
      change (if z.1 < ms.length then some z else none) = some y at h4
      by_cases hz : z.1 < ms.length
      · rw [if_pos hz] at h4
        injection h4 with h4
        subst h4
        obtain ⟨a2, h6⟩ := h.rd.bad z m r hxe h5 h7
        exact ⟨a2, rd (hne z.1 m hz h5) h6⟩
      · rw [if_neg hz] at h4; cases h4
  · rcases h.rd.over n hn with ⟨i, h4, h5⟩ | ⟨bs2, a2, f2, h4⟩
    · by_cases hi : i = ms.length
      · subst hi
        rw [hi0] at h5
        injection h5 with h5
        subst h5
        exact .inr ⟨bs, a, f, hm0⟩
      · exact .inl ⟨i, by omega, h5⟩
    · by_cases hg : n.g = m0.g
      · have e := h.one n hn m0 (List.mem_append_right _ (List.mem_cons_self ..)) hg
        subst e
        exact .inr ⟨bs, a, f, hm0⟩
      · exact .inr ⟨bs2, a2, f2, rd hg h4⟩
  · cases hxe : x with
    | none => rw [hxe] at e; cases e
    | some z =>
      rw [hxe] at e
      change (if z.1 < ms.length then some z else none) = some y at e
      by_cases hz : z.1 < ms.length
      · rw [if_pos hz] at e
        injection e with e
        rw [← e]; exact hz
      · rw [if_neg hz] at e; cases e
end
end Go.Proofs.Ytefaapcekbgjoaa
