/- The reference's Put and Done, of bytes of any length. -/
import Derived.Test.YtadnjfoinmeloaaRefK
import Derived.Test.YtadnjfoinmeloaaMiscK
namespace Go.Proofs.Ytadnjfoinmeloaa
open Go.RowKit

def FreshS (w : World) (ys : List UInt8) (e : Ending) (w' : World) : Prop := ∃ A c, e = .returned (.slice A ys.length c) ∧ Sl w' ⟨A, c, ys⟩ ∧ Below w.heap.size w w'
theorem FreshS.of {w w' : World} {ys : List UInt8} {e : Ending} (h : FreshB w ys e w') : FreshS w ys e w' := by
  obtain ⟨A, c, he, ho, hb⟩ := h
  exact ⟨A, c, he, Sl.of_own ho, hb⟩
theorem wpList_appS {w : World} {ops : Array Oper} {rest : List Oper} {o : Oper} {a : Act} {Q : Exit → Act → World → Prop} (hgd : o.guard = none) (s x : Operand)
    (ho : o.op = .call { callee := .builtin .append, args := #[s, x], argTypes := #[22, 22] })
    {base n c m c' : Nat} {A A' : Option Addr} {xs ys : List UInt8} (hs : a.eval s = .slice A n c) (hown : OwnB w base A n c xs) (hx : a.eval x = .slice A' m c') (hr : RV w A' (ys.map bv)) (hm : ys.length = m)
    (hn6 : n ≤ 1000000) (hb : n + m ≤ 200000000000000) (hbase : base ≤ w.heap.size) (hnil : A' = none → m = 0 ∧ c' = 0)
    (h : ∀ A2 c2 w', Sl w' ⟨A2, c2, xs ++ ys⟩ → Below base w w' → wpList Try.prog ops Q rest (a.put o.dst (.slice A2 (n + m) c2)) w') :
    wpList Try.prog ops Q (o :: rest) a w := by
  refine wpList_plain hgd fun K hK => ?_
  obtain ⟨A2, c2, w', hrun, h2, h3⟩ := run_app_wide w o.type hown (c' := c') hr hm hn6 hb hnil hbase
  unfold Oper.wp execOp
  simp only [ho, resolve, invoke, builtin, Sem.run_bind, Sem.run_pure, Result.andThen_ok, List.map_toArray, List.map_cons, List.map_nil, hs, hx, hrun]
  exact hK _ _ (h A2 c2 w' h2 h3)
theorem refPutW_any (x : Item) (w : World) (hp : Sl w x.p) (hok : x.ok) (hn : x.kind = 1 → 0 ≤ x.n) (hlen : x.p.ys.length ≤ 140737488355328) : Calls Try.prog 48 #[x.val] w (FreshS w (itemL x)) := by
  obtain ⟨kd, n, p⟩ := x
  have hok1 := hok.n1
  have hok2 := hok.n2
  dsimp only at hok1 hok2 hlen hn
  have hb0 : ∀ o, Below w.heap.size w (w.alloc o) := fun o => (Below.refl _ _).alloc (Nat.le_refl _) o
  have Hb0 := Lib.hid hb0
  have Hp := Lib.hid hp
  clear hok hb0 hp
  by_cases k1 : kd = 1
  · subst k1
    have e : itemL ⟨1, n, p⟩ = formL n.toNat := rfl
    rw [e]
    obtain ⟨m, rfl⟩ := Int.eq_ofNat_of_zero_le (hn rfl)
    rw [Int.toNat_natCast]
    have hm : m < 18446744073709551616 := by omega
    have Hm := Lib.hid hm
    clear e hn hm
    go_enter Try.func48, Try.ntmps48
    go_wp2_with fail
    refine (refForm_any m _ Hm.out).mono ?_
    rintro e w2 hpost
    obtain ⟨A1, c1, rfl, hown, hb⟩ := hpost
    go_wp2_with fail
    go_ret
    exact FreshS.of (FreshB.mono (Hb0.out _) ⟨A1, c1, rfl, hown, hb⟩)
  by_cases k2 : kd = 2
  · subst k2
    have e : itemL ⟨2, n, p⟩ = formL (foldN n) := rfl
    rw [e]
    have hm := foldN_lt n hok1 (by omega)
    have Hm := Lib.hid hm
    clear e hn hm k1
    go_enter Try.func48, Try.ntmps48
    go_wp2_with fail
    refine (fold_any n _ hok1 hok2).mono ?_
    rintro e w1 ⟨rfl, rfl⟩
    go_wp2_with fail
    refine (refForm_any (foldN n) _ Hm.out).mono ?_
    rintro e w2 hpost
    obtain ⟨A1, c1, rfl, hown, hb⟩ := hpost
    go_wp2_with fail
    go_ret
    exact FreshS.of (FreshB.mono (Hb0.out _) ⟨A1, c1, rfl, hown, hb⟩)
  by_cases k3 : kd = 3
  · subst k3
    have e : itemL ⟨3, n, p⟩ = boolL (n == 1) := rfl
    rw [e]
    clear e hn k1 k2
    have hB : ∀ o1 o2, Below w.heap.size w ((w.alloc o1).alloc o2) := fun o1 o2 => ((Below.refl _ _).alloc (Nat.le_refl _) o1).alloc (by simp) o2
    have hO : ∀ (o1 : Obj) (u : UInt8), OwnB ((w.alloc o1).alloc (.cells #[bv u] 5)) w.heap.size (some ⟨w.heap.size + 1, 0, none⟩) 1 1 [u] := fun o1 u => by
      have h := Own.lit (w.alloc o1) (base := w.heap.size) 5 1 1 #[bv u] (by simp) (by decide) rfl
      rwa [World.size_alloc] at h
    have HB := Lib.hid hB
    have HO := Lib.hid hO
    clear hB hO
    by_cases h1 : n = 1
    · subst h1
      go_enter Try.func48, Try.ntmps48
      go_wp2_with fail
      go_ret
      exact FreshS.of ⟨_, _, rfl, HO.out _ 1, HB.out _ _⟩
    · have h1b : (n == 1) = false := by simp; omega
      have e : boolL (n == 1) = [0] := by rw [h1b]; rfl
      rw [e]
      clear e h1
      go_enter Try.func48, Try.ntmps48
      go_wp2_with fail
      go_ret
      exact FreshS.of ⟨_, _, rfl, HO.out _ 0, HB.out _ _⟩
  by_cases k6 : kd = 6
  · subst k6
    have e : itemL ⟨6, n, p⟩ = p.ys := rfl
    rw [e]
    clear e hn k1 k2 k3
    have hrv := fun o => (Hp.out.below (Hb0.out o)).rv
    have Hrv := Lib.hid hrv
    have Hnil := Lib.hid Hp.out.nil
    clear hrv
    go_enter Try.func48, Try.ntmps48
    go_wp2_with (at_builtin; refine wpList_appS rfl (.tmp 28) (.tmp 30) rfl (base := w.heap.size) (n := 0) (c := 0) (A := none) (xs := []) rfl (Own.nil _ _ _ _) (A' := p.A) (m := p.ys.length) (c' := p.c) (ys := p.ys) rfl (Hrv.out _) rfl (by omega) (by omega) (by simp) Hnil.out ?_; intro A2 c2 w2 hs2 hb2)
    go_ret
    simp only [List.nil_append] at hs2
    exact ⟨A2, c2, rfl, hs2, (Hb0.out _).trans (hb2.mono (by simp))⟩
  · have e : itemL ⟨kd, n, p⟩ = formL p.ys.length ++ p.ys := by
      unfold itemL
      rw [if_neg k1, if_neg k2, if_neg k3, if_neg k6]
    have j1 : (kd == 1) = false := by simp; omega
    have j2 : (kd == 2) = false := by simp; omega
    have j3 : (kd == 3) = false := by simp; omega
    have j6 : (kd == 6) = false := by simp; omega
    have He := Lib.hid e
    have hfl := formL_le p.ys.length
    clear e hn k1 k2 k3 k6
    go_enter Try.func48, Try.ntmps48
    go_wp2_with fail
    refine (refForm_any p.ys.length _ (by omega)).mono ?_
    rintro e w2 hpost
    obtain ⟨A1, c1, rfl, hown, hb⟩ := hpost
    obtain ⟨hc2, hf2⟩ := bcell hb
    have hz2 : w.heap.size < w2.heap.size := by have := hb.size; simp only [World.size_alloc] at this; omega
    have hB2 := (Hb0.out _).trans (hb.mono (by simp))
    have hcell : w2.cell? ⟨w.heap.size, 2, none⟩ = some (.slice p.A p.ys.length p.c) := by rw [hc2 _ _ (by simp)]; simp
    have Hrv := Lib.hid (Hp.out.below hB2).rv
    have Hnil := Lib.hid Hp.out.nil
    have hown' := hown.mono (base' := w.heap.size) (by simp)
    clear hc2 hf2 hb hown
    go_wp2_with (at_builtin; refine wpList_appS rfl (.tmp 37) (.tmp 39) rfl (base := w.heap.size) (n := (formL p.ys.length).length) (c := c1) (A := A1) (xs := formL p.ys.length) rfl hown' (A' := p.A) (m := p.ys.length) (c' := p.c) (ys := p.ys) rfl Hrv.out rfl (by omega) (by omega) hB2.size Hnil.out ?_; intro A2 c2 w3 hs3 hb3)
    go_ret
    rw [He.out]
    exact ⟨A2, c2, by rw [List.length_append]; rfl, hs3, hB2.trans (hb3.mono (Nat.le_refl _))⟩
theorem refDoneW_any (A : Option Addr) (c : Nat) (its : List Item) (w : World) (hI : Items w A its) (hl : its.length ≤ 9223372036854775807) :
    Calls Try.prog 23 #[.slice A its.length c] w (FreshB2 w (refFrom [] its)) := by
  have hys : ∀ x ∈ its, x.p.ys.length ≤ 140737488355328 := fun x hx => (hI.ok x hx).len
  have Hys := Lib.hid hys
  clear hys
  go_enter Try.func23, Try.ntmps23
  go_wp2_with fail
  go_loopw [4, 5] (fun v i wr => ∃ (k : Nat) (out : List UInt8) (A' : Option Addr) (c' : Nat), k ≤ its.length ∧ i = .int .i64 k ∧ v = .slice A' out.length c' ∧ OwnB wr w.heap.size A' out.length c' out ∧ Below w.heap.size w wr ∧ out.length ≤ 4194304 ∧ Hid (refFrom [] its = refFrom out (its.drop k))) (fun _ i _ => its.length - (intOf i).toNat)
  case atStart => exact ⟨0, [], none, 0, Nat.zero_le _, rfl, rfl, Own.nil _ _ _ _, Below.refl _ _, by simp, rfl⟩
  case round =>
    obtain ⟨k, out, A', c', hk, rfl, rfl, hown, hB, hlen, HR⟩ := hrel
    have hsz := hB.size
    by_cases hlt : k < its.length
    · have hIr := hI.below hB
      obtain ⟨b, off, rfl, hb, h0, h1, h2⟩ := hIr.at_ hlt
      have hmem : its[k] ∈ its := List.getElem_mem hlt
      have hlt' : (k : Int) < its.length := by omega
      have hstep : refFrom [] its = refFrom out (its[k] :: its.drop (k + 1)) := by rw [HR.out, List.drop_eq_getElem_cons hlt]
      by_cases hneg : its[k].kind = 1 ∧ its[k].n < 0
      · have hres : Hid (refFrom [] its = ([], 1)) := by
          show _ = _
          rw [hstep]
          simp only [refFrom, if_pos hneg]
        obtain ⟨g1, g2⟩ := hneg
        have g1' : (its[k].kind == 1) = true := by rw [beq_iff_eq]; exact g1
        clear g1 hstep
        go_wp2_with fail
        go_ret2
        rw [hres.out]
        exact ⟨none, 0, rfl, Own.nil _ _ _ _, hB⟩
      · have hput := refPutW_any its[k] wr (hIr.sl _ hmem) (hIr.ok _ hmem) (fun h => by
          rcases Int.lt_or_le its[k].n 0 with h' | h'
          · exact absurd ⟨h, h'⟩ hneg
          · exact h') (Hys.out _ hmem)
        have Hput := Lib.hid hput
        have hstep2 : refFrom [] its = if 4194304 < out.length + (itemL its[k]).length then ([], 2) else refFrom (out ++ itemL its[k]) (its.drop (k + 1)) := by
          rw [hstep]
          simp only [refFrom, if_neg hneg]
        have Hstep := Lib.hid hstep2
        have hcase : ((its[k].kind == 1) = true ∧ 0 ≤ its[k].n) ∨ (its[k].kind == 1) = false := by
          by_cases h1 : its[k].kind = 1
          · refine .inl ⟨by rw [beq_iff_eq]; exact h1, ?_⟩
            rcases Int.lt_or_le its[k].n 0 with h' | h'
            · exact absurd ⟨h1, h'⟩ hneg
            · exact h'
          · exact .inr (by rw [beq_eq_false_iff_ne]; exact h1)
        clear hput hstep hstep2 hneg
        rcases hcase with ⟨g1, g2⟩ | g1
        all_goals
          go_wp2_with fail
          refine Hput.out.mono ?_
          rintro e w2 hpost
          obtain ⟨A2, c2, rfl, hs2, hb2⟩ := hpost
          have hbs : (itemL its[k]).length ≤ 140737488355400 := by
            have := itemL_le its[k]
            have := Hys.out _ hmem
            omega
          generalize itemL its[k] = bs at *
          have hB2 := hB.trans (hb2.mono hsz)
          have hownO := Own.below hown hb2 (Nat.le_refl _)
          have Hnil := Lib.hid hs2.nil
          have hrv2 := hs2.rv
          clear hb2 hs2
          by_cases hov : 4194304 < out.length + bs.length
          · have hov' : (4194304 : Int) < out.length + bs.length := by omega
            have hres : Hid (refFrom [] its = ([], 2)) := by
              show _ = _
              rw [Hstep.out, if_pos hov]
            clear hov
            go_wp2_with fail
            go_ret2
            rw [hres.out]
            exact ⟨none, 0, rfl, Own.nil _ _ _ _, hB2⟩
          · have hov' : ¬ (4194304 : Int) < out.length + bs.length := by omega
            have hres : Hid (refFrom [] its = refFrom (out ++ bs) (its.drop (k + 1))) := by
              show _ = _
              rw [Hstep.out, if_neg hov]
            go_wp2_with (at_builtin; refine wpList_app rfl (.tmp 38) (.tmp 39) eByte rfl (base := w.heap.size) (n := out.length) (c := c') (A := A') (vs := out.map bv) rfl hownO (A' := A2) (m := bs.length) (c' := c2) (us := bs.map bv) rfl hrv2 (by simp) (map_bv_one _) (by unfold maxLen; omega) (by omega) hB2.size Hnil.out ?_; intro A3 c3 w3 hown3 hg3 hat3)
            have hB3 := hB2.grown hg3 hB2.size fun k hk => (hownO.row k hk).1
            exact ⟨⟨k + 1, out ++ bs, A3, c3, by omega, by go_num, by rw [List.length_append], OwnB.app hown3 rfl rfl, hB3, by rw [List.length_append]; omega, hres⟩, by simp [intOf]; omega⟩
    · go_wp2_with fail
      go_ret2
      have hres : refFrom [] its = (out, 0) := by rw [HR.out, List.drop_eq_nil_of_le (by omega)]; rfl
      rw [hres]
      exact ⟨A', c', rfl, hown, hB⟩
end Go.Proofs.Ytadnjfoinmeloaa
