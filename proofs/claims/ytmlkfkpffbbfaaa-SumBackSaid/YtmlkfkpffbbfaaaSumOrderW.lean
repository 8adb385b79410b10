/- The walk of SumOrder: it returns true. -/
import Derived.Test.YtmlkfkpffbbfaaaShaOr
import Derived.Test.YtmlkfkpffbbfaaaShaGi
import Derived.WalkLawsBesides
namespace Go.Proofs.Ytmlkfkpffbbfaaa
open Go.RowKit

/-- Unlike arrays are compared in a quiet region. -/
theorem quiet_neArr {P : Program} {o : Oper} {a : Act} {C : World → Prop} {K : Act → Prop} (T : TypeId) (x y : Operand) {Ty : TypeId} {e : TypeId} {k : IntKind} {n : Nat} (ho : o.op = .binOp .neq T x y Ty)
    (ht : P.underlying T = some (.array n e)) (he : P.underlying e = some (.int k)) (hs : (P.info? e).map (·.size) = some 1) (hg : P.eqGuardType P.depth T = false) {l m : List UInt8} (hx : a.eval x = aggB l) (hy : a.eval y = aggB m) (h1 : l.length = n) (h2 : m.length = n)
    (hk : K (a.put o.dst (.bool (!decide (l = m))))) : o.quiet P a C K := by
  refine ⟨_, fun w hw => ?_, hk⟩
  have hgd : (eqGuard .neq T x y (aggB l) (aggB m)).run P w = .ok () w := run_eqGuard_agg w .neq T x y _ _ hg
  have hb : (binOp .neq T (aggB l) (aggB m)).run P w = .ok (.bool (!decide (l = m))) w := run_neqArr ht he hs h1 h2
  unfold Oper.quietAt execOp
  simp only [ho, hx, hy, Sem.run_bind, hgd, hb, Result.andThen_ok, Sem.run_pure]
  exact ⟨rfl, rfl⟩
/-- A contract of Less with its answer known. -/
theorem less_is (a b : List UInt8) (ha : a.length = 32) (hb : b.length = 32) (r : Bool) (hr : lessL a b = r) (w : World) :
    Calls Try.prog 26 #[aggB a, aggB b] w fun e w' => e = .returned (.bool r) ∧ Below w.heap.size w w' := by
  subst hr
  exact less_any a b ha hb w
set_option maxHeartbeats 4000000 in
theorem sumOrder_walk (a b c : List UInt8) (ha : a.length = 32) (hb : b.length = 32) (hc : c.length = 32) (w : World) :
    Calls Try.prog 9 #[aggB a, aggB b, aggB c] w fun e w' => e = .returned (.bool true) ∧ Below w.heap.size w w' := by
  have Ha := Lib.hid ha
  have Hb := Lib.hid hb
  have Hc := Lib.hid hc
  have Hsa := Lib.hid (map_bv_len a ha)
  have Hsb := Lib.hid (map_bv_len b hb)
  have Hsc := Lib.hid (map_bv_len c hc)
  have htx := text_less a b (by rw [ha, hb])
  obtain ⟨ab, hab⟩ : ∃ x, lessL a b = x := ⟨_, rfl⟩
  obtain ⟨ba, hba⟩ : ∃ x, lessL b a = x := ⟨_, rfl⟩
  obtain ⟨bc, hbc⟩ : ∃ x, lessL b c = x := ⟨_, rfl⟩
  obtain ⟨ac, hac⟩ : ∃ x, lessL a c = x := ⟨_, rfl⟩
  obtain ⟨ne, hne⟩ : ∃ x, (!decide (a = b)) = x := ⟨_, rfl⟩
  rw [hab] at htx
  have hcase : Hid ((ab = true ∧ ba = false ∧ ne = true ∧ (bc = true → ac = true)) ∨ (ab = false ∧ ne = false) ∨ (ab = false ∧ ne = true ∧ ba = true)) := Lib.hid (by
    cases hab2 : ab
    · by_cases h : a = b
      · right; left; exact ⟨rfl, by rw [← hne]; simp [h]⟩
      · right; right
        exact ⟨rfl, by rw [← hne]; simp [h], by rw [← hba]; exact less_total a b h (by rw [hab, hab2])⟩
    · left
      refine ⟨rfl, by rw [← hba]; exact less_asymm a b (by rw [hab, hab2]), ?_, ?_⟩
      · rw [← hne]
        have : a ≠ b := fun h => by
          rw [h, less_self] at hab
          rw [← hab] at hab2
          cases hab2
        simp [this]
      · intro h
        rw [← hac]
        exact less_trans a b c (by rw [hab, hab2]) (by rw [hbc, h]))
  have Hab := Lib.hid hab
  have Hba := Lib.hid hba
  have Hbc := Lib.hid hbc
  have Hac := Lib.hid hac
  have Hne := Lib.hid hne
  have Htx := Lib.hid htx
  clear ha hb hc hab hba hbc hac hne htx
  go_enter Try.func9, Try.ntmps9
  go_wp2_with (first
    | (refine wpList_at 3 rfl ?_; refine wpList_boxB rfl 28 (.tmp 0) rfl (a.map bv) rfl ?_; intro w1 hblk1 hb1 hz1)
    | (refine wpList_at 4 rfl ?_; refine wpList_boxB rfl 28 (.tmp 1) rfl (b.map bv) rfl ?_; intro w2 hblk2 hb2 hz2)
    | (refine wpList_at 5 rfl ?_; refine wpList_boxB rfl 28 (.tmp 2) rfl (c.map bv) rfl ?_; intro w3 hblk3 hb3 hz3; refine wp_stop ?_))
  refine ⟨?_⟩
  have hB2 : Below w.heap.size w w2 := hb1.trans (hb2.mono hb1.size)
  have hB3 : Below w.heap.size w w3 := hB2.trans (hb3.mono hB2.size)
  have hka := (hblk1.below hb2 hblk1.lt).below hb3 (by omega)
  rw [hz1] at hblk2
  have hkb := hblk2.below hb3 (by omega)
  have hkc := hblk3
  rw [hz2, hz1] at hkc
  have hz : w.heap.size + 3 = w3.heap.size := by omega
  clear hblk1 hblk2 hblk3 hb1 hb2 hb3 hB2
  have Hz := Lib.hid hz
  clear hz
  clear hz1 hz2 hz3
  go_wp2_with fail
  refine (known_any w3).mono ?_
  rintro e w4 ⟨rfl, hb4⟩
  have hB4 : Below w.heap.size w w4 := hB3.trans (hb4.mono hB3.size)
  have hs4 := hb4.size
  have hz := Hz.out
  have ka4 := hka.below hb4 (by omega)
  have kb4 := hkb.below hb4 (by omega)
  have kc4 := hkc.below hb4 (by omega)
  clear hka hkb hkc hb4 hB3 hz
  go_wp2_with (first
    | (refine wpList_at 10 rfl ?_; refine wpList_loadG rfl 28 (.tmp 3) rfl w.heap.size rfl (a.map bv) _ ka4 Try.underlying28 rfl Hsa.out ?_)
    | (refine wpList_at 11 rfl ?_; refine wpList_loadG rfl 28 (.tmp 4) rfl (w.heap.size + 1) rfl (b.map bv) _ kb4 Try.underlying28 rfl Hsb.out ?_))
  refine (less_is a b Ha.out Hb.out ab Hab.out w4).mono ?_
  rintro e w5 ⟨rfl, hb5⟩
  have hB5 : Below w.heap.size w w5 := hB4.trans (hb5.mono hB4.size)
  have hs5 := hb5.size
  have hz := Hz.out
  have ka5 := ka4.below hb5 (by omega)
  have kb5 := kb4.below hb5 (by omega)
  have kc5 := kc4.below hb5 (by omega)
  clear ka4 kb4 kc4 hb5 hB4
  have hl1 : ∀ x : BW w5.heap.size w5, (Instr.loadAt 28 (.pointer (some ⟨w.heap.size, 0, none⟩))).run Try.prog x.w = .ok (aggB a) x.w := BW.load ka5 ka5.lt Try.underlying28 rfl Hsa.out
  have hl2 : ∀ x : BW w5.heap.size w5, (Instr.loadAt 28 (.pointer (some ⟨w.heap.size + 1, 0, none⟩))).run Try.prog x.w = .ok (aggB b) x.w := BW.load kb5 kb5.lt Try.underlying28 rfl Hsb.out
  have HB5 := Lib.hid hB5
  have KA := Lib.hid ka5
  have KB := Lib.hid kb5
  have KC := Lib.hid kc5
  clear hB5 hs5 hs4 hz ka5 kb5 kc5
  rcases hcase.out with ⟨rfl, rfl, rfl, htr⟩ | ⟨rfl, rfl⟩ | ⟨rfl, rfl, rfl⟩
  all_goals
    have htx2 := Htx.out
    clear hcase
    go_wp2_with fail
    refine region_inB w5.heap.size w5 (Below.refl _ _) (by kernel_rfl) (by kernel_rfl) ?_
    repeat (first
    | (go_big_quiet_want; refine quiet_neArr 28 _ _ rfl Try.underlying28 Try.underlying5 size1B guardD (l := a) (m := b) rfl rfl Ha.out Hb.out ?_; rw [Hne.out]; simp only [Act.put, List.setIfInBounds_toArray, List.set_cons_zero, List.set_cons_succ]; go_big_quiet_on)
    | (go_big_quiet_want; refine quiet_load 28 _ rfl (p := .pointer (some ⟨w.heap.size, 0, none⟩)) rfl (fun _ ⟨x, hx⟩ => hx ▸ hl1 x) ?_; simp only [Act.put, List.setIfInBounds_toArray, List.set_cons_zero, List.set_cons_succ]; go_big_quiet_on)
    | (go_big_quiet_want; refine quiet_load 28 _ rfl (p := .pointer (some ⟨w.heap.size + 1, 0, none⟩)) rfl (fun _ ⟨x, hx⟩ => hx ▸ hl2 x) ?_; simp only [Act.put, List.setIfInBounds_toArray, List.set_cons_zero, List.set_cons_succ]; go_big_quiet_on)
    | go_big_quiet_step (first
      | with_reducible exact Calls.inBat _ (less_is b a Hb.out Ha.out _ Hba.out _) (Nat.le_refl _)
      | with_reducible exact Calls.inBat _ (text_any a Ha.out _) (Nat.le_refl _)
      | with_reducible exact Calls.inBat _ (text_any b Hb.out _) (Nat.le_refl _)))
    refine wpQuiet_nil ?_
    intro w6 hb6
    clear htx2 hl1 hl2
  · have ka6 := KA.out.below hb6 KA.out.lt
    have kb6 := KB.out.below hb6 KB.out.lt
    have kc6 := KC.out.below hb6 KC.out.lt
    have hB6 : Below w.heap.size w w6 := HB5.out.trans (hb6.mono HB5.out.size)
    clear hb6
    cases bc
    · clear htr
      go_wp2_with (first
        | (refine wpList_at 46 rfl ?_; refine wpList_loadG rfl 28 (.tmp 4) rfl (w.heap.size + 1) rfl (b.map bv) _ kb6 Try.underlying28 rfl Hsb.out ?_)
        | (refine wpList_at 47 rfl ?_; refine wpList_loadG rfl 28 (.tmp 5) rfl (w.heap.size + 1 + 1) rfl (c.map bv) _ kc6 Try.underlying28 rfl Hsc.out ?_))
      refine (less_is b c Hb.out Hc.out _ Hbc.out w6).mono ?_
      rintro e w7 ⟨rfl, hb7⟩
      have hB7 : Below w.heap.size w w7 := hB6.trans (hb7.mono hB6.size)
      clear hb7 ka6 kb6 kc6
      go_wp2_with fail
      go_ret
      exact ⟨rfl, hB7⟩
    · obtain rfl : ac = true := htr rfl
      clear htr
      go_wp2_with (first
        | (refine wpList_at 46 rfl ?_; refine wpList_loadG rfl 28 (.tmp 4) rfl (w.heap.size + 1) rfl (b.map bv) _ kb6 Try.underlying28 rfl Hsb.out ?_)
        | (refine wpList_at 47 rfl ?_; refine wpList_loadG rfl 28 (.tmp 5) rfl (w.heap.size + 1 + 1) rfl (c.map bv) _ kc6 Try.underlying28 rfl Hsc.out ?_))
      refine (less_is b c Hb.out Hc.out _ Hbc.out w6).mono ?_
      rintro e w7 ⟨rfl, hb7⟩
      have hB7 : Below w.heap.size w w7 := hB6.trans (hb7.mono hB6.size)
      have ka7 := ka6.below hb7 ka6.lt
      have kc7 := kc6.below hb7 kc6.lt
      clear hb7 ka6 kb6 kc6
      go_wp2_with (first
        | (refine wpList_at 52 rfl ?_; refine wpList_loadG rfl 28 (.tmp 3) rfl w.heap.size rfl (a.map bv) _ ka7 Try.underlying28 rfl Hsa.out ?_)
        | (refine wpList_at 53 rfl ?_; refine wpList_loadG rfl 28 (.tmp 5) rfl (w.heap.size + 1 + 1) rfl (c.map bv) _ kc7 Try.underlying28 rfl Hsc.out ?_))
      refine (less_is a c Ha.out Hc.out _ Hac.out w7).mono ?_
      rintro e w8 ⟨rfl, hb8⟩
      have hB8 : Below w.heap.size w w8 := hB7.trans (hb8.mono hB7.size)
      clear hb8 ka7 kc7
      go_wp2_with fail
      go_ret
      exact ⟨rfl, hB8⟩
  all_goals
    have hB6 : Below w.heap.size w w6 := HB5.out.trans (hb6.mono HB5.out.size)
    clear hb6
    go_wp2_with fail
    go_ret
    exact ⟨rfl, hB6⟩
end Go.Proofs.Ytmlkfkpffbbfaaa
