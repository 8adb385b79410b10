/- The reference's get (chapter 12's), of a Reader with or without a fault; what Decode is told by it. -/
import Derived.Test.YtadnjfoinmeloaaRfGet
import Derived.Test.YtadnjfoinmeloaaPrgDe
namespace Go.Proofs.Ytadnjfoinmeloaa
open Go.RowKit

/-- Where a Reader stands: its place and its fault. -/
def gN (bs : List UInt8) (s : Nat × Int) : Int × (Nat × Int) := if s.2 = 0 then (match rNumL bs s.1 with | .ok (u, k) => ((u : Int), (s.1 + k, 0)) | .error f => (0, (s.1, f))) else (0, s)
def gB (bs : List UInt8) (s : Nat × Int) : List UInt8 × (Nat × Int) := if s.2 = 0 then (match rBytesL bs s.1 with | .ok (ys, a) => (ys, (a, 0)) | .error f => ([], (s.1, f))) else ([], s)
theorem gN_bad (bs : List UInt8) (a : Nat) (f : Int) (hf : ¬ f = 0) : gN bs (a, f) = (0, (a, f)) := by unfold gN; rw [if_neg hf]
theorem gB_bad (bs : List UInt8) (a : Nat) (f : Int) (hf : ¬ f = 0) : gB bs (a, f) = ([], (a, f)) := by unfold gB; rw [if_neg hf]
theorem gN_err {bs : List UInt8} {a : Nat} {f : Int} (h : rNumL bs a = .error f) : gN bs (a, 0) = (0, (a, f)) := by unfold gN; rw [if_pos rfl]; simp only [h]
theorem gN_ok {bs : List UInt8} {a u k : Nat} (h : rNumL bs a = .ok (u, k)) : gN bs (a, 0) = ((u : Int), (a + k, 0)) := by unfold gN; rw [if_pos rfl]; simp only [h]
theorem gB_err {bs : List UInt8} {a : Nat} {f : Int} (h : rBytesL bs a = .error f) : gB bs (a, 0) = ([], (a, f)) := by unfold gB; rw [if_pos rfl]; simp only [h]
theorem gB_ok {bs ys : List UInt8} {a a2 : Nat} (h : rBytesL bs a = .ok (ys, a2)) : gB bs (a, 0) = (ys, (a2, 0)) := by unfold gB; rw [if_pos rfl]; simp only [h]
theorem gN_le (bs : List UInt8) (s : Nat × Int) : 0 ≤ (gN bs s).1 ∧ (gN bs s).1 ≤ 9223372036854775807 := by
  obtain ⟨a, f⟩ := s
  by_cases hf : f = 0
  · subst hf
    cases h : rNumL bs a with
    | error f => rw [gN_err h]; exact ⟨by dsimp only; omega, by dsimp only; omega⟩
    | ok q =>
      obtain ⟨u, k⟩ := q
      rw [gN_ok h]
      have := (rNum_lt h).1
      dsimp only
      omega
  · rw [gN_bad bs a f hf]; exact ⟨by dsimp only; omega, by dsimp only; omega⟩
theorem gB_le (bs : List UInt8) (s : Nat × Int) : (gB bs s).1.length ≤ bs.length := by
  obtain ⟨a, f⟩ := s
  by_cases hf : f = 0
  · subst hf
    cases h : rBytesL bs a with
    | error f => rw [gB_err h]; exact Nat.zero_le _
    | ok q =>
      obtain ⟨u, k⟩ := q
      rw [gB_ok h]
      exact (rBytes_len h).1
  · rw [gB_bad bs a f hf]; exact Nat.zero_le _
def GNPost (w : World) (g c : Nat) (A : Option Addr) (bs : List UInt8) (r : Int × (Nat × Int)) (e : Ending) (w' : World) : Prop :=
  ∃ kd : Int, e = .returned (.agg #[.int .i64 kd, .int .i64 r.1, .slice none 0 0]) ∧ RR w' g A c bs r.2.1 r.2.2 ∧ Only (fun b => b = g) w w'
def GBPost (w : World) (g c : Nat) (A : Option Addr) (bs : List UInt8) (r : List UInt8 × (Nat × Int)) (e : Ending) (w' : World) : Prop :=
  ∃ (kd : Int) (A5 : Option Addr) (c5 : Nat), e = .returned (.agg #[.int .i64 kd, .int .i64 0, .slice A5 r.1.length c5]) ∧ OwnB w' w.heap.size A5 r.1.length c5 r.1 ∧ RR w' g A c bs r.2.1 r.2.2 ∧ Only (fun b => b = g) w w'
theorem getN_any (g c : Nat) (s : Nat × Int) (A : Option Addr) (bs : List UInt8) (w : World) (h : RR w g A c bs s.1 s.2) (hl : bs.length ≤ 140737488351232) :
    Calls Try.prog 45 #[.pointer (some ⟨g, 0, none⟩), .int .i64 1] w (GNPost w g c A bs (gN bs s)) := by
  obtain ⟨a, f⟩ := s
  dsimp only at h
  by_cases hf : f = 0
  · subst hf
    refine (rfGetN_any g c a A bs w h hl).mono ?_
    rintro e w1 (⟨n, a2, hr, rfl, hR, hO⟩ | ⟨f, hr, rfl, hR, hO⟩)
    · cases hq : rNumL bs a with
      | error f => rw [hq] at hr; cases hr
      | ok q =>
        obtain ⟨u, k⟩ := q
        rw [hq] at hr
        injection hr with hr
        injection hr with h1 h2
        subst h1 h2
        rw [gN_ok hq]
        exact ⟨1, rfl, hR, hO⟩
    · cases hq : rNumL bs a with
      | ok q => obtain ⟨u, k⟩ := q; rw [hq] at hr; cases hr
      | error f' =>
        rw [hq] at hr
        injection hr with hr
        subst hr
        rw [gN_err hq]
        exact ⟨1, rfl, hR, hO⟩
  · refine (rfGetE_any g c a A bs f 1 w h hf).mono ?_
    rintro e w1 ⟨rfl, hb⟩
    rw [gN_bad bs a f hf]
    exact ⟨0, rfl, h.below hb, Only.of_fresh hb⟩
set_option maxRecDepth 100000 in
theorem rfGetB_any (g c at_ : Nat) (A : Option Addr) (bs : List UInt8) (w : World) (h : RR w g A c bs at_ 0) (hl : bs.length ≤ 140737488351232) (hc1 : bs.length ≤ c) (hc2 : A = none → bs.length = 0 ∧ c = 0) :
    Calls Try.prog 45 #[.pointer (some ⟨g, 0, none⟩), .int .i64 4] w (RReadB w g A c bs at_ (rBytesL bs at_)) := by
  obtain ⟨w0, hw0⟩ : ∃ w0, w0 = w.alloc (.cells #[.int .i64 0, .int .i64 0, .slice none 0 0] 66) := ⟨_, rfl⟩
  have hb0 : Below w.heap.size w w0 := by rw [hw0]; exact (Below.refl _ _).alloc (Nat.le_refl _) _
  have hY0 : Blk w0 w.heap.size 66 #[.int .i64 0, .int .i64 0, .slice none 0 0] := by rw [hw0]; exact Blk.new w _ _
  have hz0 : w.heap.size + 1 = w0.heap.size := by rw [hw0]; simp
  have k2 := h.c2
  have hgl := h.blk.lt
  have H := Lib.hid h
  have Hr := Lib.hid (rfReadB_any g c at_ A bs w0 (h.below hb0) hl hc1 hc2)
  have Hw0 := Lib.hid hw0
  have Hb0 := Lib.hid hb0
  have HY0 := Lib.hid hY0
  have Hz0 := Lib.hid hz0
  clear h hw0 hb0 hY0 hc2 hz0
  go_enter Try.func45, Try.ntmps45
  go_wp2_with fail
  rw [← Hw0.out]
  refine Hr.out.mono ?_
  have hgy : w.heap.size ≠ g := by omega
  have hAy : bs ≠ [] → ∀ b o, A = some ⟨b, o, none⟩ → b ≠ w.heap.size := fun hn b o e => by have := H.out.lt hn b o e; omega
  have HAy := Lib.hid hAy
  clear hAy
  rintro e w1 ⟨hO, ⟨ys, a2, A5, c5, hr, rfl, hown, hR⟩ | ⟨f, hr, rfl, hR⟩⟩
  · have hY1 := HY0.out.only hO hgy
    have y0 : w1.cell? ⟨w.heap.size, 0, none⟩ = some (.int .i64 0) := hY1.cell 0
    have y1 : w1.cell? ⟨w.heap.size, 1, none⟩ = some (.int .i64 0) := hY1.cell 1
    have y2 : w1.cell? ⟨w.heap.size, 2, none⟩ = some (.slice none 0 0) := hY1.cell 2
    have yf0 := hY1.frozen 0
    have yf1 := hY1.frozen 1
    have yf2 := hY1.frozen 2
    have hyl := hY1.lt
    have HR1 := Lib.hid hR
    have HO1 := Lib.hid ((Only.of_fresh (S := fun b => b = g) Hb0.out).trans hO)
    have Hq := Lib.hid hr
    have Hown := Lib.hid hown
    clear hr hR hO hY1 Hr hown
    unfold itemB
    go_wp2_with fail
    have hS : Only (fun b => b = w.heap.size) w1 (((w1.setCell ⟨w.heap.size, 0, none⟩ (.int .i64 4)).setCell ⟨w.heap.size, 1, none⟩ (.int .i64 0)).setCell ⟨w.heap.size, 2, none⟩ (.slice A5 ys.length c5)) :=
      (((Only.refl (fun b => b = w.heap.size) w1).setCell (p := ⟨w.heap.size, 0, none⟩) (.inl rfl) _).setCell (p := ⟨w.heap.size, 1, none⟩) (.inl rfl) _).setCell (p := ⟨w.heap.size, 2, none⟩) (.inl rfl) _
    refine bodyPost_ret (v := itemB A5 ys.length c5) ?_ rfl ⟨?_, .inl ⟨ys, a2, A5, c5, Hq.out, rfl, ?_, ?_⟩⟩
    · simp [results, Try.results45, go_sem, itemB, y0, y1, y2]
    · exact (((HO1.out.setCell (p := ⟨w.heap.size, 0, none⟩) (.inr (Nat.le_refl _)) _).setCell (p := ⟨w.heap.size, 1, none⟩) (.inr (Nat.le_refl _)) _).setCell (p := ⟨w.heap.size, 2, none⟩) (.inr (Nat.le_refl _)) _)
    · exact Own.mono (Own.only Hown.out hS fun b o e h => by have := (Own.lt Hown.out b o e).1; have := Hz0.out; omega) (by have := Hz0.out; omega)
    · exact ((HR1.out.setFar ⟨w.heap.size, 0, none⟩ hgy HAy.out _).setFar ⟨w.heap.size, 1, none⟩ hgy HAy.out _).setFar ⟨w.heap.size, 2, none⟩ hgy HAy.out _
  · have hY1 := HY0.out.only hO hgy
    have y0 : w1.cell? ⟨w.heap.size, 0, none⟩ = some (.int .i64 0) := hY1.cell 0
    have y1 : w1.cell? ⟨w.heap.size, 1, none⟩ = some (.int .i64 0) := hY1.cell 1
    have y2 : w1.cell? ⟨w.heap.size, 2, none⟩ = some (.slice none 0 0) := hY1.cell 2
    have yf0 := hY1.frozen 0
    have yf1 := hY1.frozen 1
    have yf2 := hY1.frozen 2
    have hyl := hY1.lt
    have HR1 := Lib.hid hR
    have HO1 := Lib.hid ((Only.of_fresh (S := fun b => b = g) Hb0.out).trans hO)
    have Hq := Lib.hid hr
    clear hr hR hO hY1 Hr
    unfold itemB
    go_wp2_with fail
    refine bodyPost_ret (v := itemB none 0 0) ?_ rfl ⟨?_, .inr ⟨f, Hq.out, rfl, ?_⟩⟩
    · simp [results, Try.results45, go_sem, itemB, y0, y1, y2]
    · exact (((HO1.out.setCell (p := ⟨w.heap.size, 0, none⟩) (.inr (Nat.le_refl _)) _).setCell (p := ⟨w.heap.size, 1, none⟩) (.inr (Nat.le_refl _)) _).setCell (p := ⟨w.heap.size, 2, none⟩) (.inr (Nat.le_refl _)) _)
    · exact ((HR1.out.setFar ⟨w.heap.size, 0, none⟩ hgy HAy.out _).setFar ⟨w.heap.size, 1, none⟩ hgy HAy.out _).setFar ⟨w.heap.size, 2, none⟩ hgy HAy.out _
theorem getB_any (g c : Nat) (s : Nat × Int) (A : Option Addr) (bs : List UInt8) (w : World) (h : RR w g A c bs s.1 s.2) (hl : bs.length ≤ 140737488351232) (hc1 : bs.length ≤ c) (hc2 : A = none → bs.length = 0 ∧ c = 0) :
    Calls Try.prog 45 #[.pointer (some ⟨g, 0, none⟩), .int .i64 4] w (GBPost w g c A bs (gB bs s)) := by
  obtain ⟨a, f⟩ := s
  dsimp only at h
  by_cases hf : f = 0
  · subst hf
    refine (rfGetB_any g c a A bs w h hl hc1 hc2).mono ?_
    rintro e w1 ⟨hO, ⟨ys, a2, A5, c5, hr, rfl, hown, hR⟩ | ⟨f, hr, rfl, hR⟩⟩
    · rw [gB_ok hr]
      exact ⟨4, A5, c5, rfl, hown, hR, hO⟩
    · rw [gB_err hr]
      exact ⟨4, none, 0, rfl, Own.nil _ _ _ _, hR, hO⟩
  · refine (rfGetE_any g c a A bs f 4 w h hf).mono ?_
    rintro e w1 ⟨rfl, hb⟩
    rw [gB_bad bs a f hf]
    exact ⟨0, none, 0, rfl, Own.nil _ _ _ _, h.below hb, Only.of_fresh hb⟩
/-- readFun by what get tells. -/
theorem readFun_get (bs : List UInt8) (a : Nat) (u1 u2 u3 : Int) (s1 s2 s3 s4 : Nat × Int) (cs : List UInt8) (h1 : gN bs (a, 0) = (u1, s1)) (h2 : gN bs s1 = (u2, s2)) (h3 : gN bs s2 = (u3, s3)) (h4 : gB bs s3 = (cs, s4)) :
    (¬ s4.2 = 0 → readFun bs a = .fell s4.2) ∧ (s4.2 = 0 → readFun bs a = if (decL cs).2 = 0 then .ok ⟨u1, u2, u3, (decL cs).1⟩ s4.1 else .refused (decL cs).2) := by
  unfold readFun
  cases e1 : rNumL bs a with
  | error f =>
    have hf := rNumL_err e1
    rw [gN_err e1] at h1; cases h1
    rw [gN_bad bs a f hf] at h2; cases h2
    rw [gN_bad bs a f hf] at h3; cases h3
    rw [gB_bad bs a f hf] at h4; cases h4
    exact ⟨fun _ => rfl, fun h => absurd h hf⟩
  | ok q =>
  obtain ⟨v1, k1⟩ := q
  rw [gN_ok e1] at h1; cases h1
  dsimp only
  cases e2 : rNumL bs (a + k1) with
  | error f =>
    have hf := rNumL_err e2
    rw [gN_err e2] at h2; cases h2
    rw [gN_bad bs _ f hf] at h3; cases h3
    rw [gB_bad bs _ f hf] at h4; cases h4
    exact ⟨fun _ => rfl, fun h => absurd h hf⟩
  | ok q =>
  obtain ⟨v2, k2⟩ := q
  rw [gN_ok e2] at h2; cases h2
  dsimp only
  cases e3 : rNumL bs (a + k1 + k2) with
  | error f =>
    have hf := rNumL_err e3
    rw [gN_err e3] at h3; cases h3
    rw [gB_bad bs _ f hf] at h4; cases h4
    exact ⟨fun _ => rfl, fun h => absurd h hf⟩
  | ok q =>
  obtain ⟨v3, k3⟩ := q
  rw [gN_ok e3] at h3; cases h3
  dsimp only
  cases e4 : rBytesL bs (a + k1 + k2 + k3) with
  | error f =>
    have hf := rBytes_err e4
    rw [gB_err e4] at h4; cases h4
    exact ⟨fun _ => rfl, fun h => absurd h hf⟩
  | ok q =>
  obtain ⟨ys, a2⟩ := q
  rw [gB_ok e4] at h4; cases h4
  exact ⟨fun h => absurd rfl h, fun _ => rfl⟩
/-- readPrg by what get tells. -/
theorem readPrg_get (bs : List UInt8) (t m n : Int) (s1 s2 s3 s4 : Nat × Int) (d : List UInt8) (h1 : gN bs (0, 0) = (t, s1)) (h2 : gN bs s1 = (m, s2)) (h3 : gB bs s2 = (d, s3)) (h4 : gN bs s3 = (n, s4)) :
    (s1.2 = 0 → ¬ t = 2 → readPrg bs = .fell 52) ∧ ((s1.2 = 0 → t = 2) → (¬ s4.2 = 0 → readPrg bs = .fell s4.2) ∧ (s4.2 = 0 → readPrg bs = if 64 < n then .fell 121 else wrapR m d (readFuns bs n.toNat [] s4.1))) := by
  unfold readPrg
  cases e1 : rNumL bs 0 with
  | error f =>
    have hf := rNumL_err e1
    rw [gN_err e1] at h1; cases h1
    rw [gN_bad bs _ f hf] at h2; cases h2
    rw [gB_bad bs _ f hf] at h3; cases h3
    rw [gN_bad bs _ f hf] at h4; cases h4
    exact ⟨fun h => absurd h hf, fun _ => ⟨fun _ => rfl, fun h => absurd h hf⟩⟩
  | ok q =>
  obtain ⟨v1, k1⟩ := q
  rw [gN_ok e1] at h1; cases h1
  dsimp only
  by_cases ht : v1 = 2
  case neg =>
    rw [if_neg ht]
    exact ⟨fun _ _ => rfl, fun h => absurd (h rfl) (by omega)⟩
  rw [if_pos ht]
  refine ⟨fun _ h => absurd (by omega) h, fun _ => ?_⟩
  cases e2 : rNumL bs (0 + k1) with
  | error f =>
    have hf := rNumL_err e2
    rw [gN_err e2] at h2; cases h2
    rw [gB_bad bs _ f hf] at h3; cases h3
    rw [gN_bad bs _ f hf] at h4; cases h4
    exact ⟨fun _ => rfl, fun h => absurd h hf⟩
  | ok q =>
  obtain ⟨v2, k2⟩ := q
  rw [gN_ok e2] at h2; cases h2
  dsimp only
  cases e3 : rBytesL bs (0 + k1 + k2) with
  | error f =>
    have hf := rBytes_err e3
    rw [gB_err e3] at h3; cases h3
    rw [gN_bad bs _ f hf] at h4; cases h4
    exact ⟨fun _ => rfl, fun h => absurd h hf⟩
  | ok q =>
  obtain ⟨ys, a2⟩ := q
  rw [gB_ok e3] at h3; cases h3
  dsimp only
  cases e4 : rNumL bs a2 with
  | error f =>
    have hf := rNumL_err e4
    rw [gN_err e4] at h4; cases h4
    exact ⟨fun _ => rfl, fun h => absurd h hf⟩
  | ok q =>
  obtain ⟨v4, k4⟩ := q
  rw [gN_ok e4] at h4; cases h4
  refine ⟨fun h => absurd rfl h, fun _ => ?_⟩
  dsimp only
  rw [Int.toNat_natCast]
  by_cases hb : 64 < v4
  · rw [if_pos hb, if_pos (by omega)]
  · rw [if_neg hb, if_neg (by omega)]
end Go.Proofs.Ytadnjfoinmeloaa
