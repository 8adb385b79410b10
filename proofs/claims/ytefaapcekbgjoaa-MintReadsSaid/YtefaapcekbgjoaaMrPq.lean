/- The reference's Reader: what a call of it tells, by the script's call. -/
import Derived.Test.YtefaapcekbgjoaaMrRd
import Derived.Test.YtefaapcekbgjoaaMrPl
import Derived.Test.YtefaapcekbgjoaaMrC
namespace Go.Proofs.Ytefaapcekbgjoaa
open Go.RowKit

theorem callR_err {c : PCall} {bs : List UInt8} {a : Nat} {f : Int} (h : callR c bs a = some (.error f)) : f ≠ 0 := by
  have key : ∀ {α β : Type} {X : Except Int α} {φ : α → β}, some (X.map φ) = some (Except.error f) → X = .error f := by
    intro α β X φ h
    injection h with h
    cases X with
    | ok x => cases h
    | error e => injection h with h; rw [h]
  unfold callR at h
  split at h
  · exact rNumE (key h)
  split at h
  · exact numE (key h)
  split at h
  · exact rBoolE (key h)
  split at h
  · exact rBytesE (key h)
  split at h
  · exact rRawE (key h)
  split at h
  · exact rMostE (key h)
  split at h
  · injection h with h; cases h
  split at h
  · split at h
    · injection h with h; cases h
    · rename_i hn
      injection h with h; injection h with h; rw [← h]; exact hn
  · cases h
theorem bt_nil (w : World) : Bt w (none, 0) [] := ⟨RV.of_own (Own.nil w 0 5 1), fun b o e => by cases e⟩
theorem bt_own {w : World} {B n c : Nat} {A : Option Addr} {ys : List UInt8} (h : OwnB w B A n c ys) : Bt w (A, c) ys := ⟨RV.of_own h, fun b o e => by obtain ⟨cs, h2⟩ := own_ty h e; exact h2.ty⟩
def RfPost (c : PCall) (w : World) (g : Nat) (A : Option Addr) (cc : Nat) (bs : List UInt8) (at_ : Nat) (e : Ending) (w' : World) : Prop :=
  Only (fun b => b = g) w w' ∧ ((∃ x a A5 c5, callR c bs at_ = some (.ok (x, a)) ∧ x.kind = c.kind ∧ e = .returned (.agg #[.int .i64 c.kind, .int .i64 x.n, .slice A5 x.b.length c5]) ∧ Bt w' (A5, c5) x.b ∧ RR w' g A cc bs a 0) ∨
    (∃ f a, callR c bs at_ = some (.error f) ∧ e = .returned (.agg #[.int .i64 c.kind, .int .i64 0, .slice none 0 0]) ∧ RR w' g A cc bs a f))
theorem refRead_any (c : PCall) (hk : c.kind = 1 ∨ c.kind = 2 ∨ c.kind = 3 ∨ c.kind = 4 ∨ c.kind = 5 ∨ c.kind = 6) (g cc at_ : Nat) (A : Option Addr) (bs : List UInt8) (w : World) (h : RR w g A cc bs at_ 0) (hl : bs.length ≤ 140737488351232) (hc1 : bs.length ≤ cc) (hc2 : A = none → bs.length = 0 ∧ cc = 0) :
    Calls Try.prog 79 #[.pointer (some ⟨g, 0, none⟩), .int .i64 c.kind, .int .i64 c.n] w (RfPost c w g A cc bs at_) := by
  have stepB : ∀ {kd : Int} {e : Ending} {w' : World} {R : Except Int (List UInt8 × Nat)}, c.kind = kd → callR c bs at_ = some (R.map fun x => (⟨kd, 0, x.1⟩, x.2)) → RReadK w kd g A cc bs R e w' → RfPost c w g A cc bs at_ e w' := by
    rintro kd e w' R hk hc ⟨ho, ⟨ys, a2, A5, c5, hR, rfl, hown, hr⟩ | ⟨f, a, hR, rfl, hr⟩⟩
    · rw [hR] at hc
      exact ⟨ho, .inl ⟨_, a2, A5, c5, hc, hk.symm, by rw [hk]; rfl, bt_own hown, hr⟩⟩
    · rw [hR] at hc
      exact ⟨ho, .inr ⟨f, a, hc, by rw [hk]; rfl, hr⟩⟩
  rcases hk with hk | hk | hk | hk | hk | hk
  · rw [hk]
    have hc : callR c bs at_ = some ((rNumL bs at_).map fun x => (⟨1, (x.1 : Int), []⟩, at_ + x.2)) := by unfold callR; simp [hk]
    refine (refN_any g cc at_ c.n A bs w h hl).mono ?_
    rintro e w' (⟨n, a2, hR, rfl, hr, ho⟩ | ⟨f, hR, rfl, hr, ho⟩)
    · cases hx : rNumL bs at_ with
      | error f => rw [hx] at hR; cases hR
      | ok uk =>
        obtain ⟨u, k⟩ := uk
        rw [hx] at hR hc
        injection hR with hR
        injection hR with h1 h2
        subst h1 h2
        exact ⟨ho, .inl ⟨_, _, none, 0, hc, hk.symm, by rw [hk]; rfl, bt_nil _, hr⟩⟩
    · cases hx : rNumL bs at_ with
      | error f2 =>
        rw [hx] at hR hc
        injection hR with hR
        subst hR
        exact ⟨ho, .inr ⟨_, _, hc, by rw [hk]; rfl, hr⟩⟩
      | ok uk => rw [hx] at hR; cases hR
  · rw [hk]
    have hc : callR c bs at_ = some ((numberL bs at_).map fun x => (⟨2, unfoldN x.1, []⟩, at_ + x.2)) := by unfold callR; simp [hk]
    refine (refI_any g cc at_ c.n A bs w h hl).mono ?_
    rintro e w' (⟨n, a2, hR, rfl, hr, ho⟩ | ⟨f, hR, rfl, hr, ho⟩)
    · cases hx : numberL bs at_ with
      | error f => rw [hx] at hR; cases hR
      | ok uk =>
        obtain ⟨u, k⟩ := uk
        rw [hx] at hR hc
        injection hR with hR
        injection hR with h1 h2
        subst h1 h2
        exact ⟨ho, .inl ⟨_, _, none, 0, hc, hk.symm, by rw [hk]; rfl, bt_nil _, hr⟩⟩
    · cases hx : numberL bs at_ with
      | error f2 =>
        rw [hx] at hR hc
        injection hR with hR
        subst hR
        exact ⟨ho, .inr ⟨_, _, hc, by rw [hk]; rfl, hr⟩⟩
      | ok uk => rw [hx] at hR; cases hR
  · rw [hk]
    have hc : callR c bs at_ = some ((rBoolL bs at_).map fun x => (⟨3, if x then 1 else 0, []⟩, at_ + 1)) := by unfold callR; simp [hk]
    refine (refL_any g cc at_ c.n A bs w h hl hc1 hc2).mono ?_
    rintro e w' ⟨ho, ⟨x, hR, rfl, hr⟩ | ⟨f, a, hR, rfl, hr⟩⟩
    · rw [hR] at hc
      exact ⟨ho, .inl ⟨_, _, none, 0, hc, hk.symm, by rw [hk]; rfl, bt_nil _, hr⟩⟩
    · rw [hR] at hc
      exact ⟨ho, .inr ⟨f, a, hc, by rw [hk]; rfl, hr⟩⟩
  · rw [hk]
    exact (refB_any g cc at_ c.n A bs w h hl hc1 hc2).mono fun e w' hp => stepB hk (by unfold callR; simp [hk]) hp
  · rw [hk]
    exact (refT_any g cc at_ c.n A bs w h hl hc1 hc2).mono fun e w' hp => stepB hk (by unfold callR; simp [hk]) hp
  · rw [hk]
    exact (refW_any g cc at_ c.n A bs w h hl hc1 hc2).mono fun e w' hp => stepB hk (by
      unfold callR
      simp only [hk]
      cases rRawL bs at_ c.n with
      | ok x => rfl
      | error f => rfl) hp
/-- What a call of the reference's Reader left: ok. -/
structure PcOk (w3 : World) (c : PCall) (gm : Nat) (mA : Option Addr) (mc : Nat) (r : List UInt8 × Nat) (gg : Nat) (wx : World) : Prop where
  out : ∃ (g : PGot) (a : Nat) (t : Option Addr × Nat), callR c r.1 r.2 = some (.ok (g, a)) ∧ g.kind = c.kind ∧ Blk wx gg 71 #[.int .i64 c.kind, .int .i64 g.n, .slice t.1 g.b.length t.2] ∧ Bt wx t g.b ∧ RR wx gm mA mc r.1 a 0 ∧ Only (fun b => b = gm ∨ b = gg) w3 wx
/-- A fault. -/
structure PcErr (w3 : World) (c : PCall) (gm : Nat) (mA : Option Addr) (mc : Nat) (r : List UInt8 × Nat) (gg : Nat) (f : Int) (wx : World) : Prop where
  call : callR c r.1 r.2 = some (.error f)
  rd : ∃ a, RR wx gm mA mc r.1 a f
  only : Only (fun b => b = gm ∨ b = gg) w3 wx
section
variable {w3 w4 : World} {c : PCall} {gm mc gg : Nat} {mA : Option Addr} {r : List UInt8 × Nat}
/-- Writes into g's block. -/
theorem pc_set {cs : List Value} {a : Nat} {f : Int} (hG : Blk w4 gg 71 cs.toArray) (hR : RR w4 gm mA mc r.1 a f) (hA : r.1 ≠ [] → ∀ b o, mA = some ⟨b, o, none⟩ → b ≠ gg) (i : Nat) (v : Value) :
    Blk (w4.setCell ⟨gg, i, none⟩ v) gg 71 (cs.set i v).toArray ∧ RR (w4.setCell ⟨gg, i, none⟩ v) gm mA mc r.1 a f ∧ Only (fun b => b = gg) w4 (w4.setCell ⟨gg, i, none⟩ v) ∧ ∀ {t : Option Addr × Nat} {ys : List UInt8}, Bt w4 t ys → Bt (w4.setCell ⟨gg, i, none⟩ v) t ys := by
  have hO : Only (fun b => b = gg) w4 (w4.setCell ⟨gg, i, none⟩ v) := (Only.refl (fun b => b = gg) w4).setCell (p := ⟨gg, i, none⟩) (.inl rfl) _
  exact ⟨Blk.setL hG i v, hR.only hO (fun e => by have h := hR.blk.ty; rw [e] at h; exact absurd (blkT_eq h hG.ty) (by decide)) hA, hO, fun hb => hb.only hO fun b h e => by rw [e] at h; exact absurd (blkT_eq h hG.ty) (by decide)⟩
theorem PcOk.num (v : Int) (a : Nat) (hA : r.1 ≠ [] → ∀ b o, mA = some ⟨b, o, none⟩ → b ≠ gg) (hG : Blk w4 gg 71 #[.int .i64 c.kind, .int .i64 0, .slice none 0 0]) (hR : RR w4 gm mA mc r.1 a 0) (ho : Only (fun b => b = gm) w3 w4) (hc : callR c r.1 r.2 = some (.ok (⟨c.kind, v, []⟩, a))) :
    PcOk w3 c gm mA mc r gg (w4.setCell ⟨gg, 1, none⟩ (.int .i64 v)) := by
  obtain ⟨h1, h2, h3, h4⟩ := pc_set (cs := [.int .i64 c.kind, .int .i64 0, .slice none 0 0]) hG hR hA 1 (.int .i64 v)
  exact ⟨⟨c.kind, v, []⟩, a, (none, 0), hc, rfl, h1, bt_nil _, h2, (ho.mono fun _ _ e => .inl e).trans (h3.mono fun _ _ e => .inr e)⟩
theorem PcOk.nil (a : Nat) (hG : Blk w4 gg 71 #[.int .i64 c.kind, .int .i64 0, .slice none 0 0]) (hR : RR w4 gm mA mc r.1 a 0) (ho : Only (fun b => b = gm) w3 w4) (hc : callR c r.1 r.2 = some (.ok (⟨c.kind, 0, []⟩, a))) : PcOk w3 c gm mA mc r gg w4 :=
  ⟨⟨c.kind, 0, []⟩, a, (none, 0), hc, rfl, hG, bt_nil _, hR, ho.mono fun _ _ e => .inl e⟩
/-- Of an Item. -/
theorem PcOk.item {x : PGot} {a c5 : Nat} {A5 : Option Addr} (o : Obj) (hA : r.1 ≠ [] → ∀ b o, mA = some ⟨b, o, none⟩ → b ≠ gg) (hG : Blk w4 gg 71 #[.int .i64 c.kind, .int .i64 0, .slice none 0 0]) (hR : RR w4 gm mA mc r.1 a 0) (hB : Bt w4 (A5, c5) x.b) (ho : Only (fun b => b = gm) w3 w4) (hc : callR c r.1 r.2 = some (.ok (x, a))) (hx : x.kind = c.kind) :
    PcOk w3 c gm mA mc r gg (((w4.setCell ⟨gg, 1, none⟩ (.int .i64 x.n)).setCell ⟨gg, 2, none⟩ (.slice A5 x.b.length c5)).alloc o) := by
  obtain ⟨h1, h2, h3, h4⟩ := pc_set (cs := [.int .i64 c.kind, .int .i64 0, .slice none 0 0]) hG hR hA 1 (.int .i64 x.n)
  obtain ⟨h5, h6, h7, h8⟩ := pc_set (cs := [.int .i64 c.kind, .int .i64 x.n, .slice none 0 0]) h1 h2 hA 2 (.slice A5 x.b.length c5)
  obtain ⟨w5, hw5⟩ : ∃ w', w' = (w4.setCell ⟨gg, 1, none⟩ (.int .i64 x.n)).setCell ⟨gg, 2, none⟩ (.slice A5 x.b.length c5) := ⟨_, rfl⟩
  have h9 := h8 (h4 hB)
  rw [← hw5] at h5 h6 h7 h9 ⊢
  have hb : Below w5.heap.size w5 (w5.alloc o) := (Below.refl _ _).alloc (Nat.le_refl _) _
  exact ⟨x, a, (A5, c5), hc, hx, Blk.below h5 hb h5.lt, h9.only (S := fun _ => False) (Only.of_fresh hb) fun _ _ h => h, h6.below hb, (((ho.mono fun _ _ e => .inl e).trans (h3.mono fun _ _ e => .inr e)).trans (h7.mono fun _ _ e => .inr e)).trans (Only.of_fresh hb)⟩
theorem PcErr.item {a : Nat} {f : Int} (o : Obj) (hA : r.1 ≠ [] → ∀ b o, mA = some ⟨b, o, none⟩ → b ≠ gg) (hG : Blk w4 gg 71 #[.int .i64 c.kind, .int .i64 0, .slice none 0 0]) (hR : RR w4 gm mA mc r.1 a f) (ho : Only (fun b => b = gm) w3 w4) (hc : callR c r.1 r.2 = some (.error f)) :
    PcErr w3 c gm mA mc r gg f (((w4.setCell ⟨gg, 1, none⟩ (.int .i64 0)).setCell ⟨gg, 2, none⟩ (.slice none 0 0)).alloc o) := by
  obtain ⟨h1, h2, h3, h4⟩ := pc_set (cs := [.int .i64 c.kind, .int .i64 0, .slice none 0 0]) hG hR hA 1 (.int .i64 0)
  obtain ⟨h5, h6, h7, h8⟩ := pc_set (cs := [.int .i64 c.kind, .int .i64 0, .slice none 0 0]) h1 h2 hA 2 (.slice none 0 0)
  obtain ⟨w5, hw5⟩ : ∃ w', w' = (w4.setCell ⟨gg, 1, none⟩ (.int .i64 0)).setCell ⟨gg, 2, none⟩ (.slice none 0 0) := ⟨_, rfl⟩
  rw [← hw5] at h6 h7 ⊢
  have hb : Below w5.heap.size w5 (w5.alloc o) := (Below.refl _ _).alloc (Nat.le_refl _) _
  exact ⟨hc, ⟨a, h6.below hb⟩, (((ho.mono fun _ _ e => .inl e).trans (h3.mono fun _ _ e => .inr e)).trans (h7.mono fun _ _ e => .inr e)).trans (Only.of_fresh hb)⟩
theorem PcErr.num {a : Nat} {f : Int} (hA : r.1 ≠ [] → ∀ b o, mA = some ⟨b, o, none⟩ → b ≠ gg) (hG : Blk w4 gg 71 #[.int .i64 c.kind, .int .i64 0, .slice none 0 0]) (hR : RR w4 gm mA mc r.1 a f) (ho : Only (fun b => b = gm) w3 w4) (hc : callR c r.1 r.2 = some (.error f)) :
    PcErr w3 c gm mA mc r gg f (w4.setCell ⟨gg, 1, none⟩ (.int .i64 0)) := by
  obtain ⟨h1, h2, h3, h4⟩ := pc_set (cs := [.int .i64 c.kind, .int .i64 0, .slice none 0 0]) hG hR hA 1 (.int .i64 0)
  exact ⟨hc, ⟨a, h2⟩, (ho.mono fun _ _ e => .inl e).trans (h3.mono fun _ _ e => .inr e)⟩
end
end Go.Proofs.Ytefaapcekbgjoaa
