/- The contract of mint's Read, for a function that either comes to its end or falls by its own Reader. -/
import Derived.Test.YtmmdkpnoncnjnaaRdC
namespace Go.Proofs.Ytmmdkpnoncnjnaa
open Go.RowKit

theorem own_caps' {w : World} {base size n c : Nat} {e : TypeId} {A : Option Addr} {vs : List Value} (h : Own w base e size A n c vs) : n ≤ c ∧ c ≤ maxLen ∧ (A = none → n = 0 ∧ c = 0) := by
  rcases h.2 with ⟨hv, hn⟩ | ⟨g, cap, cur, hv, hg, hh, hnc, hcm, -⟩
  · injection hv with h1 h2 h3
    subst hn
    subst h3
    exact ⟨Nat.le_refl _, by unfold maxLen; omega, fun _ => ⟨rfl, rfl⟩⟩
  · injection hv with h1 h2 h3
    subst h3
    exact ⟨hnc, hcm, fun h => by rw [h1] at h; cases h⟩
set_option maxRecDepth 100000 in
set_option maxHeartbeats 1000000 in
theorem read_any (p : Part) (w : World) (hp : Sl w p) (hl : p.ys.length ≤ 140737488351232) (k : FuncId) (first cap : Array Value) (S : Nat → Prop) (T : Nat → Nat → Bool → Int → World → Prop)
    (hcf : ∀ (g : Nat) (w1 : World), (callFunc k (first.push (.pointer (some ⟨g, 0, none⟩)) ++ cap)).run Try.prog w1 = .ok (.enter k (first.push (.pointer (some ⟨g, 0, none⟩)) ++ cap)) w1)
    (hbody : ∀ (g c : Nat) (A : Option Addr) (w1 : World), w.heap.size < g → Below w.heap.size w w1 → Rd w1 g A c p.ys 0 false 0 → (∀ b o, A = some ⟨b, o, none⟩ → w.heap.size < b ∧ b < w1.heap.size) →
      Calls Try.prog k (first.push (.pointer (some ⟨g, 0, none⟩)) ++ cap) w1 fun e w2 => ∃ at_ o f, Rd w2 g A c p.ys at_ o f ∧ T g at_ o f w2 ∧ Only (fun b => b = g ∨ S b) w1 w2 ∧ (e = .returned (.tuple #[]) ∨ (e = .panicked [endedE g] ∧ f ≠ 0)))
    (hS : ∀ b, S b → b < w.heap.size) :
    Calls Try.prog 43 #[.slice p.A p.ys.length p.c, .func (.func k) first cap] w fun e w' => ∃ g at_ o f w2, w.heap.size < g ∧ T g at_ o f w2 ∧ e = .returned (.int .i64 (readE f at_ p.ys.length)) ∧ Only (fun b => b = g ∨ b = w.heap.size) w2 w' ∧ Only S w w' := by
  have hmf : ∀ (fn : Fn) (first cap : Array Value) (w : World), (Instr.makeFunc fn first cap).run Try.prog w = .ok (.func fn first cap) w := fun _ _ _ _ => rfl
  have Hp := Lib.hid hp
  clear hp
  obtain ⟨pA, pc, ys⟩ := p
  dsimp only at hl hbody ⊢
  go_enter_defers Try.func43, Try.ntmps43
  go_wp2_with fail
  have hb0 : Below w.heap.size w (w.alloc (.cells #[.int .i64 0] 33)) := (Below.refl _ _).alloc (Nat.le_refl _) _
  refine (clone_any ⟨pA, pc, ys⟩ _ (Hp.out.below hb0) (by show ys.length ≤ _; omega)).mono ?_
  rintro e w1 ⟨A1, c1, rfl, hown, hb⟩
  dsimp only at hown ⊢
  have hz0 : (w.alloc (.cells #[.int .i64 0] 33)).heap.size = w.heap.size + 1 := by simp
  have hz1 := hb.size
  rw [hz0] at hz1
  have Hown := Lib.hid hown
  have Hb := Lib.hid hb
  clear hb0 hown hb hz0
  go_wp2_with fail
  obtain ⟨w3, hw3⟩ : ∃ w3, w3 = (w1.alloc (.cells #[.slice A1 ys.length c1, .int .i64 0, .bool false, .int .i64 0] 101)).alloc (.cells #[.pointer (some ⟨w1.heap.size, 0, none⟩)] 81) := ⟨_, rfl⟩
  rw [← hw3]
  have hB1 : Below w1.heap.size w1 w3 := by rw [hw3]; exact ((Below.refl _ _).alloc (Nat.le_refl _) _).alloc (by simp) _
  have hz3 : w3.heap.size = w1.heap.size + 2 := by rw [hw3]; simp
  have hB0 : Below w.heap.size w w3 := (((Below.refl _ _).alloc (Nat.le_refl _) _).trans (Hb.out.mono (by simp))).trans (hB1.mono (by omega))
  have hrd : Rd w3 w1.heap.size A1 c1 ys 0 false 0 := by
    refine ⟨?_, (RV.of_own Hown.out).below hB1, fun b o e h => ?_, ?_, Nat.zero_le _⟩
    · rw [hw3]; exact (Blk.new w1 _ _).alloc _
    · have := (Own.row Hown.out b (by rw [e]; rfl)).2
      omega
    · exact own_caps' Hown.out
  have hge : w3.cell? ⟨w.heap.size, 0, none⟩ = some (.int .i64 0) := by
    rw [(bcell hB1).1 _ _ (by omega), (bcell Hb.out).1 _ _ (by simp)]
    exact (Blk.new w _ #[_]).cell 0
  have hgr : w3.cell? ⟨w1.heap.size + 1, 0, none⟩ = some (.pointer (some ⟨w1.heap.size, 0, none⟩)) := by
    rw [hw3]
    have h := (Blk.new (w1.alloc (.cells #[.slice A1 ys.length c1, .int .i64 0, .bool false, .int .i64 0] 101)) 81 #[.pointer (some ⟨w1.heap.size, 0, none⟩)]).cell 0
    rw [World.size_alloc] at h
    exact h
  have hA1 : ∀ b o, A1 = some ⟨b, o, none⟩ → w.heap.size < b ∧ b < w3.heap.size := fun b o e => by
    have h := Own.row Hown.out b (by rw [e]; rfl)
    simp at h
    omega
  have hgeB : Blk w3 w.heap.size 33 #[.int .i64 0] := ((Blk.new w _ _).below Hb.out (by simp)).below hB1 (by omega)
  refine (hbody w1.heap.size c1 A1 w3 (by omega) hB0 hrd hA1).mono ?_
  rintro e w4 ⟨at_, o, f, hrd4, hT, ho4, hend⟩
  have hz4 := ho4.size
  have hgeB4 := hgeB.only ho4 (by rintro (h | h); omega; have := hS _ h; omega)
  have hfe4 := hgeB4.frozen 0
  have hge4 : w4.cell? ⟨w.heap.size, 0, none⟩ = some (.int .i64 0) := hgeB4.cell 0
  have hgr4 : w4.cell? ⟨w1.heap.size + 1, 0, none⟩ = some (.pointer (some ⟨w1.heap.size, 0, none⟩)) := by
    rw [(ocell ho4).1 _ _ (by omega) (by rintro (h | h); omega; have := hS _ h; omega)]
    exact hgr
  have hOw : Only S w w4 := (Only.of_fresh hB0).more ho4 fun b hb h => h.resolve_left (by omega)
  have Hrd4 := Lib.hid hrd4
  have HT := Lib.hid hT
  have HOw := Lib.hid hOw
  have HA1 := Lib.hid hA1
  clear hbody hcf hrd hrd4 hT hOw ho4 hgeB hgeB4 hA1 hw3 hB1 hB0
  rcases hend with rfl | ⟨rfl, hf⟩
  · go_wp2_with fail
    have hO5 : Only (fun b => b = w1.heap.size ∨ b = w.heap.size) w4 (w4.setCell ⟨w.heap.size, 0, none⟩ (.int .i64 0)) := (Only.refl _ w4).setCell (p := ⟨w.heap.size, 0, none⟩) (.inl (.inr rfl)) _
    have hrd5 : Rd (w4.setCell ⟨w.heap.size, 0, none⟩ (.int .i64 0)) w1.heap.size A1 c1 ys at_ o f :=
      Hrd4.out.only ((Only.refl (fun b => b = w.heap.size) w4).setCell (p := ⟨w.heap.size, 0, none⟩) (.inl rfl) _) (by omega) fun b o e h => by have := HA1.out b o e; omega
    refine leaves_cons (f := 66) (args := #[.pointer (some ⟨w1.heap.size + 1, 0, none⟩), .pointer (some ⟨w.heap.size, 0, none⟩)]) (by simp) (by simp [go_sem]) ?_
    refine (close_ret (w1.heap.size + 1) w.heap.size w1.heap.size c1 at_ A1 ys o f _ hrd5 ?_ (World.cell?_setCell_same _ _ _ hge4) ?_ (by omega) fun b o e h => by have := HA1.out b o e; omega).mono ?_
    · rw [(ocell ((Only.refl (fun b => b = w.heap.size) w4).setCell (p := ⟨w.heap.size, 0, none⟩) (.inl rfl) _)).1 _ _ (by omega) (by omega)]
      exact hgr4
    · simpa using hfe4
    rintro e u' w6 ⟨rfl, rfl, hc⟩
    refine ⟨.int .i64 (readE f at_ ys.length), ?_, ?_⟩
    · have hcell := hc.cell
      have hgl6 := block_lt_of_cell hcell
      simp [results, Try.results43, go_sem, hcell]
    · have ho6 := hc.only
      refine ⟨w1.heap.size, at_, o, f, w4, by omega, HT.out, rfl, ?_, ?_⟩
      · exact (hO5.trans (ho6.mono fun _ _ h => h))
      · exact HOw.out.more ((hO5.trans (ho6.mono fun _ _ h => h))) fun b hb h => by rcases h with h | h <;> omega
  · go_wp2_with fail
    refine leaves_cons (f := 66) (args := #[.pointer (some ⟨w1.heap.size + 1, 0, none⟩), .pointer (some ⟨w.heap.size, 0, none⟩)]) (by simp) (by simp [go_sem]) ?_
    refine (close_pan (w1.heap.size + 1) w.heap.size w1.heap.size c1 at_ A1 ys o f _ Hrd4.out hgr4 hge4 hfe4 (by omega) fun b o e h => by have := HA1.out b o e; omega).mono ?_
    rintro e u' w6 ⟨rfl, rfl, hc⟩
    refine ⟨.int .i64 (readE f at_ ys.length), ?_, ?_⟩
    · have hcell := hc.cell
      have hgl6 := block_lt_of_cell hcell
      simp [results, Try.results43, go_sem, hcell]
    · have ho6 := hc.only
      refine ⟨w1.heap.size, at_, o, f, w4, by omega, HT.out, rfl, ?_, ?_⟩
      · exact ho6
      · exact HOw.out.more (ho6) fun b hb h => by rcases h with h | h <;> omega
end Go.Proofs.Ytmmdkpnoncnjnaa
