/- Proved here: the law retortlaw1.MintWrites, as a walk: over any row of things it returns true, and nothing that was there has turned. -/
import Derived.Test.YtefaapcekbgjoaaWritesA
import Derived.Test.YtefaapcekbgjoaaOrder
namespace Go.Proofs.Ytefaapcekbgjoaa
open Go.RowKit

theorem item_info : (Try.prog.info? 30).map (fun i => (i.zero, i.size, i.bytes)) = some (some (.agg #[.int .i64 0, .int .i64 0, .slice none 0 0]), 3, 40) := by kernel_rfl
theorem eItem : Elem Try.prog 26 30 3 40 := elem_of Try.underlying26 item_info rfl (by decide)
theorem items_one (its : List Item) : ∀ u ∈ its.flatMap itemCells, u.oneCell' = true := by
  intro u hu
  obtain ⟨x, _, hx⟩ := List.mem_flatMap.1 hu
  simp only [itemCells, List.mem_cons, List.not_mem_nil, or_false] at hx
  rcases hx with rfl | rfl | rfl <;> rfl
theorem length_items (its : List Item) : (its.flatMap itemCells).length = its.length * 3 := length_flatMap_const _ 3 (fun _ => rfl) _

/-- Rows of unlike element types lie in unlike blocks. -/
theorem Own.ne_own {w : World} {base base' size size' n n' c c' : Nat} {e e' : TypeId} {A A' : Option Addr} {vs vs' : List Value} (h : Own w base e size A n c vs) (h' : Own w base' e' size' A' n' c' vs') (hne : e ≠ e') :
    ∀ b, A.map (·.block) = some b → A'.map (·.block) ≠ some b := by
  intro b hb hb'
  rcases h.2 with ⟨hv, _⟩ | ⟨g, cap, cur, hv, _, hh, _⟩
  · injection hv with h1; rw [h1] at hb; cases hb
  rcases h'.2 with ⟨hv', _⟩ | ⟨g', cap', cur', hv', _, hh', _⟩
  · injection hv' with h1; rw [h1] at hb'; cases hb'
  have hA : A = some ⟨g, 0, none⟩ := by injection hv
  have hA' : A' = some ⟨g', 0, none⟩ := by injection hv'
  rw [hA] at hb
  rw [hA'] at hb'
  simp only [Option.map_some, Option.some.injEq] at hb hb'
  subst hb
  subst hb'
  rw [hh] at hh'
  injection hh' with h1
  injection h1 with _ h2
  exact hne h2

/-- What the law holds at the head of a round. -/
structure Round (w wr : World) (its : List Item) (A2 : Option Addr) (c2 : Nat) (now : List Item) (A c : _) : Prop where
  own : Own wr w.heap.size 30 3 A2 now.length c2 (now.flatMap itemCells)
  good : ∀ x ∈ now, isB x = true ∧ x ∈ its
  writer : Wr wr w.heap.size w.heap.size A c (putAll ([], 0) now).1 (putAll ([], 0) now).2
  kept : Below w.heap.size w wr
theorem putAll_le (l : List Item) : ∀ s : List UInt8 × Int, s.1.length ≤ 4194304 → (putAll s l).1.length ≤ 4194304 := by
  induction l with
  | nil => exact fun s h => h
  | cons x l ih => exact fun s h => ih _ (putItem_le _ _ _ h)
theorem Round.len {w wr : World} {its now : List Item} {A2 A : Option Addr} {c2 c : Nat} (_ : Round w wr its A2 c2 now A c) : (putAll ([], 0) now).1.length ≤ 4194304 := putAll_le now _ (by simp)
theorem Round.step {w wr w' : World} {its now : List Item} {A2 A : Option Addr} {c2 c : Nat} (h : Round w wr its A2 c2 now A c) (hb : Below wr.heap.size wr w') : Round w w' its A2 c2 now A c :=
  ⟨Own.below h.own hb (Nat.le_refl _), h.good, h.writer.below hb, h.kept.trans (hb.mono h.kept.size)⟩
theorem Round.items {w wr : World} {its now : List Item} {A0 A2 A : Option Addr} {c2 c : Nat} (h : Round w wr its A2 c2 now A c) (hI : Items w A0 its) : Items wr A2 now :=
  ⟨RV.of_own h.own, fun x hx => (hI.sl x (h.good x hx).2).below h.kept, fun x hx => hI.ok x (h.good x hx).2⟩
theorem Round.apart {w wr : World} {its now : List Item} {A2 A : Option Addr} {c2 c : Nat} (h : Round w wr its A2 c2 now A c) : ∀ b o, A2 = some ⟨b, o, none⟩ → ¬ wrS w.heap.size A b := by
  intro b o hA
  rintro (e | e)
  · exact Own.ne_blk h.own h.writer.blk (by decide) b o hA e
  · exact Own.ne_own h.own h.writer.own (by decide) b (by rw [hA]; rfl) e
theorem isB_kind {x : Item} (h : isB x = true) : 1 ≤ x.kind ∧ x.kind ≤ 6 ∧ x.p.ys.length ≤ 65536 := by
  simp only [isB, Bool.and_eq_true, decide_eq_true_eq] at h
  exact ⟨h.1.1, h.1.2, h.2⟩
theorem Round.spec {w wr : World} {its now : List Item} {A2 A : Option Addr} {c2 c : Nat} (h : Round w wr its A2 c2 now A c) : refFrom [] now = (doneL (putAll ([], 0) now).1 (putAll ([], 0) now).2, (putAll ([], 0) now).2) :=
  ref_put now [] fun x hx => ⟨(isB_kind (h.good x hx).1).1, (isB_kind (h.good x hx).1).2.1⟩
theorem Round.small {w wr : World} {its now : List Item} {A2 A : Option Addr} {c2 c : Nat} (h : Round w wr its A2 c2 now A c) : ∀ x ∈ now, x.p.ys.length ≤ 70368744177664 := fun x hx => by
  have := (isB_kind (h.good x hx).1).2.2
  omega
theorem Sl.sep {w : World} {p : Part} (h : Sl w p) {base g c : Nat} {A : Option Addr} {xs : List UInt8} {f : Int} {w2 : World} (hW : Wr w2 base g A c xs f) (hg : w.heap.size ≤ g) (hbase : w.heap.size ≤ base) : ∀ b o, 0 < p.ys.length → p.A = some ⟨b, o, none⟩ → ¬ wrS g A b := by
  intro b o h0 hA
  obtain ⟨b', o', hA', hb, _⟩ := h.rv.at_ (by rw [List.length_map]; exact h0)
  rw [hA] at hA'
  simp only [Option.some.injEq, Addr.mk.injEq, and_true] at hA'
  obtain ⟨rfl, _⟩ := hA'
  rintro (e | e)
  · omega
  · have := (hW.lenA b e).1
    omega

set_option maxRecDepth 100000 in
set_option maxHeartbeats 2000000 in
theorem writes_walk (A0 : Option Addr) (c0 : Nat) (its : List Item) (w : World) (hI : Items w A0 its) (_hl : its.length ≤ 9223372036854775807) :
    Calls Try.prog 4 #[.slice A0 its.length c0] w fun e w' => e = .returned (.bool true) ∧ Below w.heap.size w w' := by
  go_enter Try.func4, Try.ntmps4
  go_wp2_with fail
  refine (new_any _).mono ?_
  rintro e w1 ⟨rfl, rfl⟩
  go_wp2_with fail
  go_loopw [4, 5] (fun v i wr => ∃ (k : Nat) (now : List Item) (A2 : Option Addr) (c2 : Nat) (A : Option Addr) (c : Nat), k ≤ its.length ∧ k ≤ 400 ∧ now.length ≤ k ∧ i = .int .i64 k ∧ v = .slice A2 now.length c2 ∧ Round w wr its A2 c2 now A c) (fun _ i _ => its.length - (intOf i).toNat)
  case atStart =>
    exact ⟨0, [], none, 0, none, 0, Nat.zero_le _, Nat.zero_le _, Nat.zero_le _, rfl, rfl, ⟨Own.nil _ _ _ _, by simp, new_wr w, (Below.refl _ _).alloc (Nat.le_refl _) _⟩⟩
  case round =>
    obtain ⟨k, now, A2, c2, A, c, hk, hk4, hnow, rfl, rfl, HR⟩ := hrel
    have hIr := hI.below HR.kept
    by_cases hlt : k < its.length ∧ k < 400
    · obtain ⟨hlt1, hlt2⟩ := hlt
      obtain ⟨b, off, rfl, hb, h0, h1, h2⟩ := hIr.at_ hlt1
      have hlt1' : (k : Int) < its.length := by omega
      have hlt2' : (k : Int) < 400 := by omega
      have hok := (hI.ok _ (List.getElem_mem hlt1)).len
      by_cases hB : isB its[k] = true
      · have hkind := isB_kind hB
        have k7 : (its[k].kind == 7) = false := by simp; omega
        have HB := Lib.hid hB
        clear hB
        have HR1 := fun o => HR.step ((Below.refl _ wr).alloc (Nat.le_refl _) o)
        have HR1H := Lib.hid HR1
        clear HR1
        go_wp2_with fail
        refine (is_yes its[k] _ HB.out).mono ?_
        rintro e w2 ⟨rfl, hb2⟩
        obtain ⟨hc2, hf2⟩ := bcell hb2
        have hz2 : wr.heap.size < w2.heap.size := by have := hb2.size; simp only [World.size_alloc] at this; omega
        have HR2 := (HR1H.out _).step hb2
        have hput := put_any w.heap.size w.heap.size A c _ _ its[k] w2 HR2.writer HR2.len HR2.kept.size ((hI.sl _ (List.getElem_mem hlt1)).below HR2.kept) (hI.ok _ (List.getElem_mem hlt1))
          ((hI.sl _ (List.getElem_mem hlt1)).sep HR2.writer (Nat.le_refl _) (Nat.le_refl _))
        have hcA : w2.cell? ⟨wr.heap.size, 0, none⟩ = some (.int .i64 its[k].kind) := by rw [hc2 _ _ (by simp)]; simp
        have hcB : w2.cell? ⟨wr.heap.size, 1, none⟩ = some (.int .i64 its[k].n) := by rw [hc2 _ _ (by simp)]; simp
        have hcC : w2.cell? ⟨wr.heap.size, 2, none⟩ = some (.slice its[k].p.A its[k].p.ys.length its[k].p.c) := by rw [hc2 _ _ (by simp)]; simp
        have Hput := Lib.hid hput
        have HR2H := Lib.hid HR2
        clear hput hb2 hc2 hf2 HR2 h0 h1 h2
        go_wp2_with fail
        refine Hput.out.mono ?_
        rintro e w3 ⟨rfl, hpost⟩
        obtain ⟨A3, c3, hW3, hA3, hO3⟩ := hpost
        have hHA3 := Lib.hid hA3
        have hfar : ¬ wrS w.heap.size A wr.heap.size := by
          rintro (e | e)
          · have := HR.writer.blk.lt; omega
          · have := (HR.writer.lenA _ e).2.1; omega
        have hcA3 := (hO3.cell (p := ⟨wr.heap.size, 0, none⟩) hz2 hfar).trans hcA
        have hcB3 := (hO3.cell (p := ⟨wr.heap.size, 1, none⟩) hz2 hfar).trans hcB
        have hcC3 := (hO3.cell (p := ⟨wr.heap.size, 2, none⟩) hz2 hfar).trans hcC
        have hz3 : wr.heap.size < w3.heap.size := Nat.lt_of_lt_of_le hz2 hO3.size
        have hown3 : Own w3 w.heap.size 30 3 A2 now.length c2 (now.flatMap itemCells) := Own.only HR2H.out.own hO3 HR2H.out.apart
        have hB3 : Below w.heap.size w w3 := HR2H.out.kept.trans (hO3.below HR2H.out.kept.size fun q hq e => by
          rcases e with e | e
          · omega
          · have := (HR2H.out.writer.lenA q e).1; omega)
        have hs3 := putAll_snoc ([], 0) now its[k]
        rw [← hs3] at hW3
        have HW3 := Lib.hid hW3
        have HB3 := Lib.hid hB3
        have hB3s := hB3.size
        clear hA3 hO3 hcA hcB hcC hfar hs3 hW3 hB3 Hput
        go_wp2_with (at_builtin; refine wpList_app rfl (.tmp 40) (.tmp 42) eItem rfl (base := w.heap.size) (n := now.length) (c := c2) (A := A2) (vs := now.flatMap itemCells) rfl (hown3.alloc _) (A' := some ⟨w3.heap.size, 0, none⟩) (m := 1) (c' := 1) (us := itemCells its[k]) rfl (RV.of_blk (Blk.new w3 _ #[_, _, _])) rfl (by intro u hu; exact items_one [its[k]] u (by simpa using hu)) (by unfold maxLen; omega) (by omega) (by simp; omega) (by simp) ?_; intro A4 c4 w4 hown4 hg4 hat4)
        refine ⟨⟨k + 1, now ++ [its[k]], A4, c4, A3, c3, by omega, by omega, by rw [List.length_append]; show _ + 1 ≤ _; omega, by go_num, by rw [List.length_append]; rfl, ?_, ?_, ?_, ?_⟩, by simp [intOf]; omega⟩
        · rw [List.length_append, List.flatMap_append]
          simpa using hown4
        · intro x hx
          rcases List.mem_append.1 hx with hx | hx
          · exact HR.good x hx
          · rw [List.mem_singleton.1 hx]
            exact ⟨HB.out, List.getElem_mem hlt1⟩
        · have hO4 : Only (fun q => A2.map (·.block) = some q) w3 w4 := (Only.of_fresh ((Below.refl _ w3).alloc (Nat.le_refl _) _)).grown hg4 fun q hq => .inl hq
          refine ⟨HW3.out.blk.only hO4 ?_, Own.only HW3.out.own hO4 ?_⟩
          · intro e
            have := hown3.row _ e
            cases hA2 : A2 with
            | none => rw [hA2] at e; cases e
            | some a =>
              obtain ⟨ab, ao, asp⟩ := a
              rw [hA2] at e hown3
              simp only [Option.map_some, Option.some.injEq] at e
              rcases hown3.2 with ⟨hv, _⟩ | ⟨g', cap, cur, hv, _⟩
              · injection hv with h1; cases h1
              · simp only [Value.slice.injEq, Option.some.injEq, Addr.mk.injEq] at hv
                obtain ⟨⟨rfl, rfl, rfl⟩, _⟩ := hv
                exact Own.ne_blk hown3 HW3.out.blk (by decide) _ _ rfl e
          · intro q o hA3 e
            exact Own.ne_own hown3 HW3.out.own (by decide) q e (by rw [hA3]; rfl)
        · exact (HB3.out.alloc hB3s _).grown hg4 (by simp; omega) fun q hq => (hown3.row q hq).1
      · have hB' : isB its[k] = false := by simpa using hB
        have HB := Lib.hid hB'
        clear hB hB'
        have HR1 := fun o => HR.step ((Below.refl _ wr).alloc (Nat.le_refl _) o)
        have HR1H := Lib.hid HR1
        clear HR1
        by_cases h7 : its[k].kind = 7
        · have k7 : (its[k].kind == 7) = true := by rw [beq_iff_eq]; exact h7
          clear h7
          have hdone := fun o => done_law w.heap.size w.heap.size A c _ _ A2 c2 now _ (HR1H.out o).writer HR.len ((HR1H.out o).items hI) (by omega) HR.small HR.spec
          have Hdone := Lib.hid hdone
          clear hdone
          go_wp2_with fail
          refine (Hdone.out _).mono ?_
          rintro e w2 ⟨rfl, hb2⟩
          obtain ⟨hc2, hf2⟩ := bcell hb2
          have hz2 : wr.heap.size < w2.heap.size := by have := hb2.size; simp only [World.size_alloc] at this; omega
          have HR2 := (HR1H.out _).step hb2
          have hcA : w2.cell? ⟨wr.heap.size, 0, none⟩ = some (.int .i64 its[k].kind) := by rw [hc2 _ _ (by simp)]; simp
          have hcB : w2.cell? ⟨wr.heap.size, 1, none⟩ = some (.int .i64 its[k].n) := by rw [hc2 _ _ (by simp)]; simp
          have hcC : w2.cell? ⟨wr.heap.size, 2, none⟩ = some (.slice its[k].p.A its[k].p.ys.length its[k].p.c) := by rw [hc2 _ _ (by simp)]; simp
          clear hb2 hc2 hf2 Hdone
          go_wp2_with fail
          refine (is_no its[k] _ HB.out (by omega)).mono ?_
          rintro e w3 ⟨rfl, hb3⟩
          have HR3 := HR2.step hb3
          clear hb3 HR2 hcA hcB hcC h0 h1 h2
          go_wp2_with fail
          exact ⟨⟨k + 1, now, A2, c2, A, c, by omega, by omega, by omega, by go_num, rfl, HR3⟩, by simp [intOf]; omega⟩
        · have k7 : (its[k].kind == 7) = false := by simp; omega
          clear h7
          go_wp2_with fail
          refine (is_no its[k] _ HB.out (by omega)).mono ?_
          rintro e w3 ⟨rfl, hb3⟩
          have HR3 := (HR1H.out _).step hb3
          clear hb3 h0 h1 h2
          go_wp2_with fail
          exact ⟨⟨k + 1, now, A2, c2, A, c, by omega, by omega, by omega, by go_num, rfl, HR3⟩, by simp [intOf]; omega⟩
    · have hend : ((its.length : Int) ≤ k) ∨ ((k : Int) < its.length ∧ (400 : Int) ≤ k) := by omega
      have hdone := done_law w.heap.size w.heap.size A c _ _ A2 c2 now wr HR.writer HR.len (HR.items hI) (by omega) HR.small HR.spec
      have Hdone := Lib.hid hdone
      clear hdone hlt
      rcases hend with hend | ⟨hend1, hend2⟩
      all_goals
        go_wp2_with fail
        refine Hdone.out.mono ?_
        rintro e w2 ⟨rfl, hb2⟩
        have HR2 := HR.step hb2
        clear hb2
        go_wp2_with fail
        refine (done_law w.heap.size w.heap.size A c _ _ A2 c2 now w2 HR2.writer HR2.len (HR2.items hI) (by omega) HR2.small HR2.spec).mono ?_
        rintro e w3 ⟨rfl, hb3⟩
        have HR3 := HR2.step hb3
        clear hb3
        go_wp2_with fail
        go_ret
        exact ⟨rfl, HR3.kept⟩
end Go.Proofs.Ytefaapcekbgjoaa
