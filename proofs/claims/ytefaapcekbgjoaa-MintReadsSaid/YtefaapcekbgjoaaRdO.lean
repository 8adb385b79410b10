/- mint's Read over a function that ends, falls by its own Reader, or is thrown through by another's (printed by gen_rdo.py). -/
import Derived.Test.YtefaapcekbgjoaaThrK
import Derived.LaidEql
namespace Go.Proofs.Ytefaapcekbgjoaa
open Go.RowKit

theorem own_ty {w : World} {base size n c b o : Nat} {e : TypeId} {A : Option Addr} {vs : List Value} (h : Own w base e size A n c vs) (hA : A = some ⟨b, o, none⟩) : ∃ cs, Blk w b e cs := by
  rcases h.2 with ⟨hv, h0⟩ | ⟨g', cap, cur, hv, hg, hh, hnc, hcm, hcs, htake⟩
  · injection hv with h1; rw [hA] at h1; cases h1
  · injection hv with h1
    rw [hA] at h1
    injection h1 with h1
    injection h1 with h1
    subst h1
    exact ⟨cur, hh⟩
theorem neq_diff (a b : Nat) (h : a ≠ b) (w : World) {ta tb : TypeId} {ca cb : Array Value} (ha : Blk w a ta ca) (hb : Blk w b tb cb) : (binOp .neq 49 (.pointer (some ⟨a, 0, none⟩)) (.pointer (some ⟨b, 0, none⟩))).run Try.prog w = .ok (.bool true) w := by
  obtain ⟨j, hj⟩ := reader_info
  have hz : j.size ≠ 0 := by
    have h1 : (Try.prog.info? 105).map (·.size) = some 4 := by kernel_rfl
    rw [hj] at h1
    have h2 : j.size = 4 := by simpa using h1
    omega
  have hsa : (sameAddr ⟨a, 0, none⟩ ⟨b, 0, none⟩).run Try.prog w = .ok false w := run_sameAddr_other w (fun e => by injection e with e1; exact h e1) ha hb
  have hq : ∀ d : Nat, (Op.equalIn (d + 1) 49 (.pointer (some ⟨a, 0, none⟩)) (.pointer (some ⟨b, 0, none⟩))).run Try.prog w = .ok false w := fun d => by
    simp [Op.equalIn, run_underlying Try.underlying49, sizeOf, typeInfo, hj, hz, hsa]
  simp only [binOp]
  simp [Op.equal, Op.maxDepth, hq 9999]
theorem drop_oldE : ∀ l : List PanicEntry, (∀ p ∈ l, p.goexit = false) → l.dropWhile (fun p => !p.goexit) = []
  | [], _ => rfl
  | p :: l, h => by
    rw [List.dropWhile_cons, if_pos (by rw [h p (by simp)]; rfl)]
    exact drop_oldE l fun q hq => h q (by simp [hq])
theorem settle_old (e : PanicEntry) (old : List PanicEntry) (h : ∀ p ∈ old, p.goexit = false) : settle (.panicking ({ e with recovered := true } :: old)) = .returning := by
  have hd := drop_oldE old h
  unfold settle
  dsimp only
  rw [hd]
set_option maxRecDepth 100000 in
set_option maxHeartbeats 1000000 in
theorem close_own (gr ge g c at_ : Nat) (A : Option Addr) (bs : List UInt8) (o : Bool) (f : Int) (w : World) (h : Rd w g A c bs at_ o f) (hr : w.cell? ⟨gr, 0, none⟩ = some (.pointer (some ⟨g, 0, none⟩))) (he : w.cell? ⟨ge, 0, none⟩ = some (.int .i64 0)) (hfe : w.frozen? ⟨ge, 0, none⟩ = false)
    (h2 : ge ≠ g) (hA : ∀ b o, A = some ⟨b, o, none⟩ → b ≠ ge) (old : List PanicEntry) :
    CallsD Try.prog 61 #[.pointer (some ⟨gr, 0, none⟩), .pointer (some ⟨ge, 0, none⟩)] (.panicking (endedE g :: old)) w fun e u' w' => e = .returned (.tuple #[]) ∧ u' = .panicking ({ endedE g with recovered := true } :: old) ∧ Closed w gr ge g A c bs at_ f w' := by
  have k2 := h.c2
  have f2 := h.blk.frozen 2
  have f3 := h.c3
  have k1 := h.c1
  have k0 := h.c0
  have hgl := h.blk.lt
  have hle := h.le
  have hrl : gr < w.heap.size := block_lt_of_cell hr
  have hel : ge < w.heap.size := block_lt_of_cell he
  have H := Lib.hid h
  have HA := Lib.hid hA
  clear h hA
  have hta := assert_ended
  have hne := neq_same
  have hclose := fun w2 => @closed_of w _ w2 gr ge g c at_ A bs o f H.out h2 HA.out rfl
  have HC := Lib.hid hclose
  clear hclose
  refine callsD_of_wpS Try.func61 rfl fun c₀ cs hu => ?_
  simp only [Try.ntmps61]
  apply wpS_seq
  refine wpS_of_wp ?_
  simp [Array.replicate]
  go_wp2_with fail
  dsimp only [Exit.thenS]
  apply wpS_seq
  apply wpS_region
  simp [wpOpsS, go_sem, recoverD, hu, Exit.thenS, endedE]
  refine wpS_of_wp ?_
  by_cases hf : f = 0
  · subst hf
    by_cases hlt : at_ < bs.length
    · have g1 : (at_ : Int) < bs.length := by omega
      have hE : readE 0 at_ bs.length = 13 := by unfold readE; rw [if_neg (by omega), if_pos hlt]
      have HE := Lib.hid hE
      clear hE
      go_wp2_with fail
      go_quiet (fail)
      go_wp2_with fail
      refine ⟨rfl, _, rfl, _, results_none rfl _ _ _, rfl, rfl, HC.out _ ?_ ?_⟩
      · exact (((Only.refl (fun b => b = ge) _).alloc _).drewN _).setCell (p := ⟨ge, 0, none⟩) (.inl rfl) _
      · rw [HE.out]
        exact (cell_two he h2).1
    · have g1 : ¬ (at_ : Int) < bs.length := by omega
      have hE : readE 0 at_ bs.length = 0 := by unfold readE; rw [if_neg (by omega), if_neg hlt]
      have HE := Lib.hid hE
      clear hE
      go_wp2_with fail
      go_quiet (fail)
      go_wp2_with fail
      refine ⟨rfl, _, rfl, _, results_none rfl _ _ _, rfl, rfl, HC.out _ ?_ ?_⟩
      · exact ((Only.refl (fun b => b = ge) _).alloc _).drewN _
      · rw [HE.out]
        exact (cell_two (z := .int .i64 0) he h2).2.2
  · have hE : readE f at_ bs.length = f := by unfold readE; rw [if_pos hf]
    have hfb : (f != 0) = true := by rw [bne_iff_ne]; exact hf
    have HE := Lib.hid hE
    clear hE hf
    go_wp2_with fail
    refine ⟨rfl, _, rfl, _, results_none rfl _ _ _, rfl, rfl, HC.out _ ?_ ?_⟩
    · exact ((Only.refl (fun b => b = ge) _).setCell (p := ⟨ge, 0, none⟩) (.inl rfl) _).alloc _
    · rw [HE.out]
      exact (cell_two (n := 0) he h2).2.1
set_option maxRecDepth 100000 in
set_option maxHeartbeats 1000000 in
theorem close_oth (gr ge g c at_ : Nat) (A : Option Addr) (bs : List UInt8) (o : Bool) (f : Int) (w : World) (h : Rd w g A c bs at_ o f) (hr : w.cell? ⟨gr, 0, none⟩ = some (.pointer (some ⟨g, 0, none⟩))) (g' : Nat) (hgg : g' ≠ g) (hB : ∃ cs t, Blk w g' t cs) (old : List PanicEntry) :
    CallsD Try.prog 61 #[.pointer (some ⟨gr, 0, none⟩), .pointer (some ⟨ge, 0, none⟩)] (.panicking (endedE g' :: old)) w fun e u' w' => e = .panicked [endedE g'] ∧ u' = .panicking ({ endedE g' with recovered := true } :: old) ∧ Rd w' g A c bs at_ true f ∧ Only (fun b => b = g) w w' := by
  have k2 := h.c2
  have f2 := h.blk.frozen 2
  have hgl := h.blk.lt
  have hrl : gr < w.heap.size := block_lt_of_cell hr
  have H := Lib.hid h
  clear h
  have hpan : ∀ (x : Value) (w : World), (Instr.panic (.iface 107 x)).run Try.prog w = .halt (.panic (.iface 107 x)) w := fun _ _ => rfl
  have hta := assert_ended
  have hne : ∀ o, (binOp .neq 49 (.pointer (some ⟨g', 0, none⟩)) (.pointer (some ⟨g, 0, none⟩))).run Try.prog ((w.setCell ⟨g, 2, none⟩ (.bool true)).alloc o) = .ok (.bool true) ((w.setCell ⟨g, 2, none⟩ (.bool true)).alloc o) := fun o => by
    obtain ⟨cs, t, hB⟩ := hB
    exact neq_diff g' g hgg _ ((hB.only ((Only.refl (fun b => b = g) w).setCell (p := ⟨g, 2, none⟩) (.inl rfl) _) hgg).alloc o) ((H.out.setO true).blk.alloc o)
  clear hB
  refine callsD_of_wpS Try.func61 rfl fun c₀ cs hu => ?_
  simp only [Try.ntmps61]
  apply wpS_seq
  refine wpS_of_wp ?_
  simp [Array.replicate]
  go_wp2_with fail
  dsimp only [Exit.thenS]
  apply wpS_seq
  apply wpS_region
  simp [wpOpsS, go_sem, recoverD, hu, Exit.thenS, endedE]
  refine wpS_of_wp ?_
  go_wp2_with fail
  have hset : Only (fun b => b = g) w (w.setCell ⟨g, 2, none⟩ (.bool true)) := (Only.refl (fun b => b = g) w).setCell (p := ⟨g, 2, none⟩) (.inl rfl) _
  exact ⟨rfl, _, rfl, rfl, rfl, (H.out.setO true).below ((Below.refl _ _).alloc (Nat.le_refl _) _), hset.alloc _⟩
set_option maxRecDepth 100000 in
set_option maxHeartbeats 1000000 in
theorem read_out (p : Part) (w : World) (hp : Sl w p) (hl : p.ys.length ≤ 140737488351232) (k : FuncId) (first cap : Array Value) (S : Nat → Prop) (T : Nat → Option Addr → Nat → Nat → Int → World → Prop) (X : Nat → Option Addr → Nat → Nat → World → Prop)
    (hcf : ∀ (g : Nat) (w1 : World), (callFunc k (first.push (.pointer (some ⟨g, 0, none⟩)) ++ cap)).run Try.prog w1 = .ok (.enter k (first.push (.pointer (some ⟨g, 0, none⟩)) ++ cap)) w1)
    (hbody : ∀ (g c : Nat) (A : Option Addr) (w1 : World), w.heap.size < g → Below w.heap.size w w1 → Rd w1 g A c p.ys 0 false 0 → (∀ b o, A = some ⟨b, o, none⟩ → w.heap.size < b ∧ b < w1.heap.size ∧ ∃ cs, Blk w1 b 5 cs) →
      Calls Try.prog k (first.push (.pointer (some ⟨g, 0, none⟩)) ++ cap) w1 fun e w2 => ∃ at_ o f, Rd w2 g A c p.ys at_ o f ∧ Only (fun b => b = g ∨ S b) w1 w2 ∧ ((e = .returned (.tuple #[]) ∧ T g A c at_ f w2) ∨ (Threw (endedE g).v e ∧ T g A c at_ f w2) ∨ ∃ g', g' ≠ g ∧ (∃ cs t, Blk w2 g' t cs) ∧ Threw (endedE g').v e ∧ X g A c g' w2))
    (hS : ∀ b, S b → b < w.heap.size) :
    Calls Try.prog 30 #[.slice p.A p.ys.length p.c, .func (.func k) first cap] w fun e w' => ∃ g A c at_ f w2, w.heap.size < g ∧ (∀ b o, A = some ⟨b, o, none⟩ → w.heap.size < b) ∧ Rd w' g A c p.ys at_ true f ∧ Only S w w' ∧ ((T g A c at_ f w2 ∧ (∃ cs, Blk w2 w.heap.size 37 cs) ∧ e = .returned (.int .i64 (readE f at_ p.ys.length)) ∧ Only (fun b => b = g ∨ b = w.heap.size) w2 w') ∨ ∃ g', g' ≠ g ∧ Threw (endedE g').v e ∧ X g A c g' w2 ∧ Only (fun b => b = g) w2 w') := by
  have hmf : ∀ (fn : Fn) (first cap : Array Value) (w : World), (Instr.makeFunc fn first cap).run Try.prog w = .ok (.func fn first cap) w := fun _ _ _ _ => rfl
  have Hp := Lib.hid hp
  clear hp
  obtain ⟨pA, pc, ys⟩ := p
  dsimp only at hl hbody ⊢
  go_enter_defers Try.func30, Try.ntmps30
  go_wp2_with fail
  have hb0 : Below w.heap.size w (w.alloc (.cells #[.int .i64 0] 37)) := (Below.refl _ _).alloc (Nat.le_refl _) _
  refine (clone_any ⟨pA, pc, ys⟩ _ (Hp.out.below hb0) (by show ys.length ≤ _; omega)).mono ?_
  rintro e w1 ⟨A1, c1, rfl, hown, hb⟩
  dsimp only at hown ⊢
  have hz0 : (w.alloc (.cells #[.int .i64 0] 37)).heap.size = w.heap.size + 1 := by simp
  have hz1 := hb.size
  rw [hz0] at hz1
  have Hown := Lib.hid hown
  have Hb := Lib.hid hb
  clear hb0 hown hb hz0
  go_wp2_with fail
  obtain ⟨w3, hw3⟩ : ∃ w3, w3 = (w1.alloc (.cells #[.slice A1 ys.length c1, .int .i64 0, .bool false, .int .i64 0] 105)).alloc (.cells #[.pointer (some ⟨w1.heap.size, 0, none⟩)] 49) := ⟨_, rfl⟩
  rw [← hw3]
  have hB1 : Below w1.heap.size w1 w3 := by rw [hw3]; exact ((Below.refl _ _).alloc (Nat.le_refl _) _).alloc (by simp) _
  have hz3 : w3.heap.size = w1.heap.size + 2 := by rw [hw3]; simp
  have hB0 : Below w.heap.size w w3 := (((Below.refl _ _).alloc (Nat.le_refl _) _).trans (Hb.out.mono (by simp))).trans (hB1.mono (by omega))
  have hrd : Rd w3 w1.heap.size A1 c1 ys 0 false 0 := by
    refine ⟨?_, (RV.of_own Hown.out).below hB1, fun b o e h => ?_, ?_, Nat.zero_le _⟩
    · rw [hw3]; exact (Blk.new w1 _ _).alloc _
    · have := (Own.row Hown.out b (by rw [e]; rfl)).2
      omega
    · exact own_caps' Hown.out
  have hge : w3.cell? ⟨w.heap.size, 0, none⟩ = some (.int .i64 0) := by
    rw [(bcell hB1).1 _ _ (by omega), (bcell Hb.out).1 _ _ (by simp)]
    exact (Blk.new w _ #[_]).cell 0
  have hgr : w3.cell? ⟨w1.heap.size + 1, 0, none⟩ = some (.pointer (some ⟨w1.heap.size, 0, none⟩)) := by
    rw [hw3]
    have h := (Blk.new (w1.alloc (.cells #[.slice A1 ys.length c1, .int .i64 0, .bool false, .int .i64 0] 105)) 49 #[.pointer (some ⟨w1.heap.size, 0, none⟩)]).cell 0
    rw [World.size_alloc] at h
    exact h
  have hA1 : ∀ b o, A1 = some ⟨b, o, none⟩ → w.heap.size < b ∧ b < w3.heap.size := fun b o e => by
    have h := Own.row Hown.out b (by rw [e]; rfl)
    simp at h
    omega
  have hgeB : Blk w3 w.heap.size 37 #[.int .i64 0] := ((Blk.new w _ _).below Hb.out (by simp)).below hB1 (by omega)
  refine (hbody w1.heap.size c1 A1 w3 (by omega) hB0 hrd fun b o e => ⟨(hA1 b o e).1, (hA1 b o e).2, by obtain ⟨cs, h⟩ := own_ty Hown.out e; exact ⟨cs, h.below hB1 h.lt⟩⟩).mono ?_
  rintro e w4 ⟨at_, o, f, hrd4, ho4, hend⟩
  have hz4 := ho4.size
  have hgeB4 := hgeB.only ho4 (by rintro (h | h); omega; have := hS _ h; omega)
  have hfe4 := hgeB4.frozen 0
  have hge4 : w4.cell? ⟨w.heap.size, 0, none⟩ = some (.int .i64 0) := hgeB4.cell 0
  have hgr4 : w4.cell? ⟨w1.heap.size + 1, 0, none⟩ = some (.pointer (some ⟨w1.heap.size, 0, none⟩)) := by
    rw [(ocell ho4).1 _ _ (by omega) (by rintro (h | h); omega; have := hS _ h; omega)]
    exact hgr
  have hOw : Only S w w4 := (Only.of_fresh hB0).more ho4 fun b hb h => h.resolve_left (by omega)
  have Hrd4 := Lib.hid hrd4
  have HgeB4 := Lib.hid hgeB4
  have HOw := Lib.hid hOw
  have HA1 := Lib.hid hA1
  clear hbody hcf hrd hrd4 hOw ho4 hgeB hgeB4 hA1 hw3 hB1 hB0
  rcases hend with ⟨rfl, hT⟩ | ⟨⟨old, rfl, hold⟩, hT⟩ | ⟨g', hgg, hBg, ⟨old, rfl, hold⟩, hX⟩
  · have HT := Lib.hid hT
    clear hT
    go_wp2_with fail
    have hO5 : Only (fun b => b = w1.heap.size ∨ b = w.heap.size) w4 (w4.setCell ⟨w.heap.size, 0, none⟩ (.int .i64 0)) := (Only.refl _ w4).setCell (p := ⟨w.heap.size, 0, none⟩) (.inl (.inr rfl)) _
    have hrd5 : Rd (w4.setCell ⟨w.heap.size, 0, none⟩ (.int .i64 0)) w1.heap.size A1 c1 ys at_ o f :=
      Hrd4.out.only ((Only.refl (fun b => b = w.heap.size) w4).setCell (p := ⟨w.heap.size, 0, none⟩) (.inl rfl) _) (by omega) fun b o e h => by have := HA1.out b o e; omega
    refine leaves_cons (f := 61) (args := #[.pointer (some ⟨w1.heap.size + 1, 0, none⟩), .pointer (some ⟨w.heap.size, 0, none⟩)]) (by simp) (by simp [go_sem]) ?_
    refine (close_ret (w1.heap.size + 1) w.heap.size w1.heap.size c1 at_ A1 ys o f _ hrd5 ?_ (World.cell?_setCell_same _ _ _ hge4) ?_ (by omega) fun b o e h => by have := HA1.out b o e; omega).mono ?_
    · rw [(ocell ((Only.refl (fun b => b = w.heap.size) w4).setCell (p := ⟨w.heap.size, 0, none⟩) (.inl rfl) _)).1 _ _ (by omega) (by omega)]
      exact hgr4
    · simpa using hfe4
    rintro e u' w6 ⟨rfl, rfl, hc⟩
    refine ⟨.int .i64 (readE f at_ ys.length), ?_, ?_⟩
    · have hcell := hc.cell
      have hgl6 := block_lt_of_cell hcell
      simp [results, Try.results30, go_sem, hcell]
    · have ho6 := hc.only
      have hO6 := hO5.trans (ho6.mono fun _ _ h => h)
      exact ⟨w1.heap.size, A1, c1, at_, f, w4, by omega, fun b o e => (HA1.out b o e).1, hc.rd, HOw.out.more hO6 fun b hb h => (by rcases h with h | h <;> omega), .inl ⟨HT.out, ⟨_, HgeB4.out⟩, rfl, hO6⟩⟩
  · have HT := Lib.hid hT
    clear hT
    go_wp2_with fail
    refine leaves_cons (f := 61) (args := #[.pointer (some ⟨w1.heap.size + 1, 0, none⟩), .pointer (some ⟨w.heap.size, 0, none⟩)]) (by simp) (by simp [go_sem]) ?_
    refine (close_own (w1.heap.size + 1) w.heap.size w1.heap.size c1 at_ A1 ys o f _ Hrd4.out hgr4 hge4 hfe4 (by omega) (fun b o e h => by have := HA1.out b o e; omega) old).mono ?_
    rintro e u' w6 ⟨rfl, rfl, hc⟩
    have hset : settle (.panicking ({ endedE w1.heap.size with recovered := true } :: old)) = .returning := settle_old _ old hold
    dsimp only
    rw [hset]
    refine ⟨.int .i64 (readE f at_ ys.length), ?_, ?_⟩
    · have hcell := hc.cell
      have hgl6 := block_lt_of_cell hcell
      simp [results, Try.results30, go_sem, hcell]
    · have ho6 := hc.only
      exact ⟨w1.heap.size, A1, c1, at_, f, w4, by omega, fun b o e => (HA1.out b o e).1, hc.rd, HOw.out.more ho6 fun b hb h => (by rcases h with h | h <;> omega), .inl ⟨HT.out, ⟨_, HgeB4.out⟩, rfl, ho6⟩⟩
  · have HX := Lib.hid hX
    clear hX
    go_wp2_with fail
    refine leaves_cons (f := 61) (args := #[.pointer (some ⟨w1.heap.size + 1, 0, none⟩), .pointer (some ⟨w.heap.size, 0, none⟩)]) (by simp) (by simp [go_sem]) ?_
    refine (close_oth (w1.heap.size + 1) w.heap.size w1.heap.size c1 at_ A1 ys o f _ Hrd4.out hgr4 g' hgg hBg old).mono ?_
    rintro e u' w6 ⟨rfl, rfl, hrd6, ho6⟩
    exact ⟨w1.heap.size, A1, c1, at_, f, w4, by omega, fun b o e => (HA1.out b o e).1, hrd6, HOw.out.more ho6 fun b hb h => (by omega), .inr ⟨g', hgg, ⟨{ endedE g' with recovered := true } :: old, rfl, fun p hp => (by
      rcases List.mem_cons.1 hp with rfl | hp
      · rfl
      · exact hold p hp)⟩, HX.out, ho6⟩⟩
end Go.Proofs.Ytefaapcekbgjoaa
