/- What is thrown of the function's own goes through Read. -/
import Derived.Test.YtefaapcekbgjoaaRdK
namespace Go.Proofs.Ytefaapcekbgjoaa
open Go.RowKit

/-- Thrown with a value, and nothing older that ends the goroutine. -/
def Threw (v : Value) (e : Ending) : Prop := ∃ old : List PanicEntry, e = .panicked ({ v := v, recovered := false } :: old) ∧ ∀ p ∈ old, p.goexit = false
set_option maxRecDepth 100000 in
set_option maxHeartbeats 1000000 in
theorem close_for (gr ge g c at_ : Nat) (A : Option Addr) (bs : List UInt8) (o : Bool) (f : Int) (w : World) (h : Rd w g A c bs at_ o f) (hr : w.cell? ⟨gr, 0, none⟩ = some (.pointer (some ⟨g, 0, none⟩))) (T : TypeId) (v : Value) (old : List PanicEntry)
    (hT : ∀ w, (Instr.typeAssert (.iface T v) 20 107 true).run Try.prog w = .ok (.tuple #[.agg #[.pointer none], .bool false]) w) :
    CallsD Try.prog 61 #[.pointer (some ⟨gr, 0, none⟩), .pointer (some ⟨ge, 0, none⟩)] (.panicking ({ v := .iface T v, recovered := false } :: old)) w fun e u' w' => e = .panicked [{ v := .iface T v, recovered := false }] ∧ u' = .panicking ({ v := .iface T v, recovered := true } :: old) ∧ Rd w' g A c bs at_ true f ∧ Only (fun b => b = g) w w' := by
  have k2 := h.c2
  have f2 := h.blk.frozen 2
  have hgl := h.blk.lt
  have hrl : gr < w.heap.size := block_lt_of_cell hr
  have H := Lib.hid h
  clear h
  have hpan : ∀ (x : Value) (w : World), (Instr.panic (.iface T x)).run Try.prog w = .halt (.panic (.iface T x)) w := fun _ _ => rfl
  refine callsD_of_wpS Try.func61 rfl fun c₀ cs hu => ?_
  simp only [Try.ntmps61]
  apply wpS_seq
  refine wpS_of_wp ?_
  simp [Array.replicate]
  go_wp2_with fail
  dsimp only [Exit.thenS]
  apply wpS_seq
  apply wpS_region
  simp [wpOpsS, go_sem, recoverD, hu, Exit.thenS]
  refine wpS_of_wp ?_
  go_wp2_with fail
  have hset : Only (fun b => b = g) w (w.setCell ⟨g, 2, none⟩ (.bool true)) := (Only.refl (fun b => b = g) w).setCell (p := ⟨g, 2, none⟩) (.inl rfl) _
  exact ⟨rfl, _, rfl, rfl, rfl, (H.out.setO true).below ((Below.refl _ _).alloc (Nat.le_refl _) _), hset.alloc _⟩
/-- A value that is none of a Reader's ends. -/
def Other (T : TypeId) (v : Value) : Prop := ∀ w, (Instr.typeAssert (.iface T v) 20 107 true).run Try.prog w = .ok (.tuple #[.agg #[.pointer none], .bool false]) w
set_option maxRecDepth 100000 in
set_option maxHeartbeats 1000000 in
theorem read_thr (p : Part) (w : World) (hp : Sl w p) (hl : p.ys.length ≤ 140737488351232) (k : FuncId) (first cap : Array Value) (S : Nat → Prop) (X : Nat → TypeId → Value → World → Prop)
    (hcf : ∀ (g : Nat) (w1 : World), (callFunc k (first.push (.pointer (some ⟨g, 0, none⟩)) ++ cap)).run Try.prog w1 = .ok (.enter k (first.push (.pointer (some ⟨g, 0, none⟩)) ++ cap)) w1)
    (hbody : ∀ (g c : Nat) (A : Option Addr) (w1 : World), w.heap.size < g → Below w.heap.size w w1 → Rd w1 g A c p.ys 0 false 0 → (∀ b o, A = some ⟨b, o, none⟩ → w.heap.size < b ∧ b < w1.heap.size) →
      Calls Try.prog k (first.push (.pointer (some ⟨g, 0, none⟩)) ++ cap) w1 fun e w2 => ∃ at_ o f Ty v, Rd w2 g A c p.ys at_ o f ∧ X g Ty v w2 ∧ Only (fun b => b = g ∨ S b) w1 w2 ∧ Other Ty v ∧ Threw (.iface Ty v) e)
    (hS : ∀ b, S b → b < w.heap.size) :
    Calls Try.prog 30 #[.slice p.A p.ys.length p.c, .func (.func k) first cap] w fun e w' => ∃ g w2 Ty v, w.heap.size < g ∧ X g Ty v w2 ∧ Other Ty v ∧ Threw (.iface Ty v) e ∧ Only (fun b => b = g) w2 w' ∧ Only S w w' := by
  have hmf : ∀ (fn : Fn) (first cap : Array Value) (w : World), (Instr.makeFunc fn first cap).run Try.prog w = .ok (.func fn first cap) w := fun _ _ _ _ => rfl
  have Hp := Lib.hid hp
  clear hp
  obtain ⟨pA, pc, ys⟩ := p
  dsimp only at hl hbody ⊢
  go_enter_defers Try.func30, Try.ntmps30
  go_wp2_with fail
  have hb0 : Below w.heap.size w (w.alloc (.cells #[.int .i64 0] 37)) := (Below.refl _ _).alloc (Nat.le_refl _) _
  refine (clone_any ⟨pA, pc, ys⟩ _ (Hp.out.below hb0) (by show ys.length ≤ _; omega)).mono ?_
  rintro e w1 ⟨A1, c1, rfl, hown, hb⟩
  dsimp only at hown ⊢
  have hz0 : (w.alloc (.cells #[.int .i64 0] 37)).heap.size = w.heap.size + 1 := by simp
  have hz1 := hb.size
  rw [hz0] at hz1
  have Hown := Lib.hid hown
  have Hb := Lib.hid hb
  clear hb0 hown hb hz0
  go_wp2_with fail
  obtain ⟨w3, hw3⟩ : ∃ w3, w3 = (w1.alloc (.cells #[.slice A1 ys.length c1, .int .i64 0, .bool false, .int .i64 0] 105)).alloc (.cells #[.pointer (some ⟨w1.heap.size, 0, none⟩)] 49) := ⟨_, rfl⟩
  rw [← hw3]
  have hB1 : Below w1.heap.size w1 w3 := by rw [hw3]; exact ((Below.refl _ _).alloc (Nat.le_refl _) _).alloc (by simp) _
  have hz3 : w3.heap.size = w1.heap.size + 2 := by rw [hw3]; simp
  have hB0 : Below w.heap.size w w3 := (((Below.refl _ _).alloc (Nat.le_refl _) _).trans (Hb.out.mono (by simp))).trans (hB1.mono (by omega))
  have hrd : Rd w3 w1.heap.size A1 c1 ys 0 false 0 := by
    refine ⟨?_, (RV.of_own Hown.out).below hB1, fun b o e h => ?_, ?_, Nat.zero_le _⟩
    · rw [hw3]; exact (Blk.new w1 _ _).alloc _
    · have := (Own.row Hown.out b (by rw [e]; rfl)).2
      omega
    · exact own_caps' Hown.out
  have hge : w3.cell? ⟨w.heap.size, 0, none⟩ = some (.int .i64 0) := by
    rw [(bcell hB1).1 _ _ (by omega), (bcell Hb.out).1 _ _ (by simp)]
    exact (Blk.new w _ #[_]).cell 0
  have hgr : w3.cell? ⟨w1.heap.size + 1, 0, none⟩ = some (.pointer (some ⟨w1.heap.size, 0, none⟩)) := by
    rw [hw3]
    have h := (Blk.new (w1.alloc (.cells #[.slice A1 ys.length c1, .int .i64 0, .bool false, .int .i64 0] 105)) 49 #[.pointer (some ⟨w1.heap.size, 0, none⟩)]).cell 0
    rw [World.size_alloc] at h
    exact h
  have hA1 : ∀ b o, A1 = some ⟨b, o, none⟩ → w.heap.size < b ∧ b < w3.heap.size := fun b o e => by
    have h := Own.row Hown.out b (by rw [e]; rfl)
    simp at h
    omega
  have hgeB : Blk w3 w.heap.size 37 #[.int .i64 0] := ((Blk.new w _ _).below Hb.out (by simp)).below hB1 (by omega)
  refine (hbody w1.heap.size c1 A1 w3 (by omega) hB0 hrd hA1).mono ?_
  rintro e w4 ⟨at_, o, f, Ty, v, hrd4, hT, ho4, hOth, old, rfl, hold⟩
  have hz4 := ho4.size
  have hgeB4 := hgeB.only ho4 (by rintro (h | h); omega; have := hS _ h; omega)
  have hfe4 := hgeB4.frozen 0
  have hge4 : w4.cell? ⟨w.heap.size, 0, none⟩ = some (.int .i64 0) := hgeB4.cell 0
  have hgr4 : w4.cell? ⟨w1.heap.size + 1, 0, none⟩ = some (.pointer (some ⟨w1.heap.size, 0, none⟩)) := by
    rw [(ocell ho4).1 _ _ (by omega) (by rintro (h | h); omega; have := hS _ h; omega)]
    exact hgr
  have hOw : Only S w w4 := (Only.of_fresh hB0).more ho4 fun b hb h => h.resolve_left (by omega)
  have Hrd4 := Lib.hid hrd4
  have HT := Lib.hid hT
  have HOw := Lib.hid hOw
  have HA1 := Lib.hid hA1
  clear hbody hcf hrd hrd4 hT hOw ho4 hgeB hgeB4 hA1 hw3 hB1 hB0
  go_wp2_with fail
  refine leaves_cons (f := 61) (args := #[.pointer (some ⟨w1.heap.size + 1, 0, none⟩), .pointer (some ⟨w.heap.size, 0, none⟩)]) (by simp) (by simp [go_sem]) ?_
  refine (close_for (w1.heap.size + 1) w.heap.size w1.heap.size c1 at_ A1 ys o f _ Hrd4.out hgr4 Ty v old hOth).mono ?_
  rintro e u' w6 ⟨rfl, rfl, hrd6, ho6⟩
  exact ⟨w1.heap.size, w4, Ty, v, by omega, HT.out, hOth, ⟨{ v := .iface Ty v, recovered := true } :: old, rfl, fun p hp => by
    rcases List.mem_cons.1 hp with rfl | hp
    · rfl
    · exact hold p hp⟩, ho6, HOw.out.more ho6 fun b hb h => by omega⟩
end Go.Proofs.Ytefaapcekbgjoaa
