/- Contracts of the reference's Put and Done. -/
import Derived.Test.YtmmdkpnoncnjnaaPut
import Derived.Test.YtmmdkpnoncnjnaaRefA
namespace Go.Proofs.Ytmmdkpnoncnjnaa
open Go.RowKit

/-- The bytes of one thing. -/
def itemL (x : Item) : List UInt8 :=
  if x.kind = 1 then formL x.n.toNat
  else if x.kind = 2 then formL (foldN x.n)
  else if x.kind = 3 then boolL (x.n == 1)
  else if x.kind = 6 then x.p.ys
  else formL x.p.ys.length ++ x.p.ys

theorem FreshB.mono {w w2 w' : World} {ys : List UInt8} {e : Ending} (hb : Below w.heap.size w w2) (h : FreshB w2 ys e w') : FreshB w ys e w' := by
  obtain ⟨A, c, he, ho, hb'⟩ := h
  exact ⟨A, c, he, ho.mono hb.size, hb.trans (hb'.mono hb.size)⟩

theorem refPut_any (x : Item) (w : World) (hp : Sl w x.p) (hok : x.ok) (hn : x.kind = 1 → 0 ≤ x.n) (hlen : x.p.ys.length ≤ 70368744177664) : Calls Try.prog 42 #[x.val] w (FreshB w (itemL x)) := by
  obtain ⟨kd, n, p⟩ := x
  have hok1 := hok.n1
  have hok2 := hok.n2
  dsimp only at hok1 hok2 hlen hn
  have hb0 : ∀ o, Below w.heap.size w (w.alloc o) := fun o => (Below.refl _ _).alloc (Nat.le_refl _) o
  have Hb0 := Lib.hid hb0
  have Hp := Lib.hid hp
  clear hok hb0 hp
  by_cases k1 : kd = 1
  · subst k1
    have e : itemL ⟨1, n, p⟩ = formL n.toNat := rfl
    rw [e]
    obtain ⟨m, rfl⟩ := Int.eq_ofNat_of_zero_le (hn rfl)
    rw [Int.toNat_natCast]
    have hm : m < 18446744073709551616 := by omega
    have Hm := Lib.hid hm
    clear e hn hm
    go_enter Try.func42, Try.ntmps42
    go_wp2_with fail
    refine (refForm_any m _ Hm.out).mono ?_
    rintro e w2 hpost
    obtain ⟨A1, c1, rfl, hown, hb⟩ := hpost
    go_wp2_with fail
    go_ret
    exact FreshB.mono (Hb0.out _) ⟨A1, c1, rfl, hown, hb⟩
  by_cases k2 : kd = 2
  · subst k2
    have e : itemL ⟨2, n, p⟩ = formL (foldN n) := rfl
    rw [e]
    have hm := foldN_lt n hok1 (by omega)
    have Hm := Lib.hid hm
    clear e hn hm k1
    go_enter Try.func42, Try.ntmps42
    go_wp2_with fail
    refine (fold_any n _ hok1 hok2).mono ?_
    rintro e w1 ⟨rfl, rfl⟩
    go_wp2_with fail
    refine (refForm_any (foldN n) _ Hm.out).mono ?_
    rintro e w2 hpost
    obtain ⟨A1, c1, rfl, hown, hb⟩ := hpost
    go_wp2_with fail
    go_ret
    exact FreshB.mono (Hb0.out _) ⟨A1, c1, rfl, hown, hb⟩
  by_cases k3 : kd = 3
  · subst k3
    have e : itemL ⟨3, n, p⟩ = boolL (n == 1) := rfl
    rw [e]
    clear e hn k1 k2
    have hB : ∀ o1 o2, Below w.heap.size w ((w.alloc o1).alloc o2) := fun o1 o2 => ((Below.refl _ _).alloc (Nat.le_refl _) o1).alloc (by simp) o2
    have hO : ∀ (o1 : Obj) (u : UInt8), OwnB ((w.alloc o1).alloc (.cells #[bv u] 5)) w.heap.size (some ⟨w.heap.size + 1, 0, none⟩) 1 1 [u] := fun o1 u => by
      have h := Own.lit (w.alloc o1) (base := w.heap.size) 5 1 1 #[bv u] (by simp) (by decide) rfl
      rwa [World.size_alloc] at h
    have HB := Lib.hid hB
    have HO := Lib.hid hO
    clear hB hO
    by_cases h1 : n = 1
    · subst h1
      go_enter Try.func42, Try.ntmps42
      go_wp2_with fail
      go_ret
      exact ⟨_, _, rfl, HO.out _ 1, HB.out _ _⟩
    · have h1b : (n == 1) = false := by simp; omega
      have e : boolL (n == 1) = [0] := by rw [h1b]; rfl
      rw [e]
      clear e h1
      go_enter Try.func42, Try.ntmps42
      go_wp2_with fail
      go_ret
      exact ⟨_, _, rfl, HO.out _ 0, HB.out _ _⟩
  by_cases k6 : kd = 6
  · subst k6
    have e : itemL ⟨6, n, p⟩ = p.ys := rfl
    rw [e]
    clear e hn k1 k2 k3
    have hrv := fun o => (Hp.out.below (Hb0.out o)).rv
    have Hrv := Lib.hid hrv
    have Hnil := Lib.hid Hp.out.nil
    clear hrv
    go_enter Try.func42, Try.ntmps42
    go_wp2_with (at_builtin; refine wpList_app rfl (.tmp 28) (.tmp 30) eByte rfl (base := w.heap.size) (n := 0) (c := 0) (A := none) (vs := []) rfl (Own.nil _ _ _ _) (A' := p.A) (m := p.ys.length) (c' := p.c) (us := p.ys.map bv) rfl (Hrv.out _) (by simp) (map_bv_one _) (by unfold maxLen; omega) (by omega) (by simp) Hnil.out ?_; intro A2 c2 w2 hown2 hg2 hat2)
    go_ret
    simp only [Nat.zero_add, List.nil_append] at hown2
    refine ⟨A2, c2, rfl, hown2, (Hb0.out _).grown hg2 (by simp) fun k hk => by cases hk⟩
  · have e : itemL ⟨kd, n, p⟩ = formL p.ys.length ++ p.ys := by
      unfold itemL
      rw [if_neg k1, if_neg k2, if_neg k3, if_neg k6]
    have j1 : (kd == 1) = false := by simp; omega
    have j2 : (kd == 2) = false := by simp; omega
    have j3 : (kd == 3) = false := by simp; omega
    have j6 : (kd == 6) = false := by simp; omega
    have He := Lib.hid e
    have hfl := formL_le p.ys.length
    clear e hn k1 k2 k3 k6
    go_enter Try.func42, Try.ntmps42
    go_wp2_with fail
    refine (refForm_any p.ys.length _ (by omega)).mono ?_
    rintro e w2 hpost
    obtain ⟨A1, c1, rfl, hown, hb⟩ := hpost
    obtain ⟨hc2, hf2⟩ := bcell hb
    have hz2 : w.heap.size < w2.heap.size := by have := hb.size; simp only [World.size_alloc] at this; omega
    have hB2 := (Hb0.out _).trans (hb.mono (by simp))
    have hcell : w2.cell? ⟨w.heap.size, 2, none⟩ = some (.slice p.A p.ys.length p.c) := by rw [hc2 _ _ (by simp)]; simp
    have Hrv := Lib.hid (Hp.out.below hB2).rv
    have Hnil := Lib.hid Hp.out.nil
    have hown' := hown.mono (base' := w.heap.size) (by simp)
    clear hc2 hf2 hb hown
    go_wp2_with (at_builtin; refine wpList_app rfl (.tmp 37) (.tmp 39) eByte rfl (base := w.heap.size) (n := (formL p.ys.length).length) (c := c1) (A := A1) (vs := (formL p.ys.length).map bv) rfl hown' (A' := p.A) (m := p.ys.length) (c' := p.c) (us := p.ys.map bv) rfl Hrv.out (by simp) (map_bv_one _) (by unfold maxLen; omega) (by omega) hB2.size Hnil.out ?_; intro A2 c2 w3 hown3 hg3 hat3)
    go_ret
    rw [He.out]
    refine ⟨A2, c2, by rw [List.length_append]; rfl, OwnB.app hown3 rfl rfl, hB2.grown hg3 hB2.size fun k hk => (hown'.row k hk).1⟩
end Go.Proofs.Ytmmdkpnoncnjnaa
