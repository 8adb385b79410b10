/- The walks of through's closures. -/
import Derived.Test.YtefaapcekbgjoaaThrC
namespace Go.Proofs.Ytefaapcekbgjoaa
open Go.RowKit

def wantN (k n : Int) : Int := if k = 2 then n % 7 else n
theorem as_ptr (v : Value) (w : World) : (Instr.typeAssert (.iface 99 v) 20 99 true).run Try.prog w = .ok (.tuple #[v, .bool true]) w := by kernel_rfl
theorem as_int (v : Value) (w : World) : (Instr.typeAssert (.iface 3 v) 20 3 true).run Try.prog w = .ok (.tuple #[v, .bool true]) w := by kernel_rfl
theorem as_str (v : Value) (w : World) : (Instr.typeAssert (.iface 9 v) 20 9 true).run Try.prog w = .ok (.tuple #[v, .bool true]) w := by kernel_rfl
theorem int_no (v : Value) (w : World) : (Instr.typeAssert (.iface 3 v) 20 99 true).run Try.prog w = .ok (.tuple #[.pointer none, .bool false]) w := by kernel_rfl
theorem str_no (v : Value) (w : World) : (Instr.typeAssert (.iface 9 v) 20 99 true).run Try.prog w = .ok (.tuple #[.pointer none, .bool false]) w := by kernel_rfl
theorem str_no2 (v : Value) (w : World) : (Instr.typeAssert (.iface 9 v) 20 3 true).run Try.prog w = .ok (.tuple #[.int .i64 0, .bool false]) w := by kernel_rfl
set_option maxRecDepth 100000 in
set_option maxHeartbeats 1000000 in
theorem thr1_ret (p : Nat) (w : World) : CallsD Try.prog 58 #[.pointer (some ⟨p, 0, none⟩)] .returning w fun e u' w' => e = .returned (.tuple #[]) ∧ u' = .returning ∧ w' = w := by
  refine callsD_of_wpS Try.func58 rfl fun c₀ cs hu => ?_
  have hc0 : ({ c₀ with mode := FrameMode.returning } : Frame) = c₀ := by cases c₀; simp_all
  have Hc0 := Lib.hid hc0
  clear hc0
  simp only [Try.ntmps58]
  simp [Array.replicate]
  apply wpS_seq
  apply wpS_region
  simp [wpOpsS, go_sem, recoverD, hu, Exit.thenS]
  refine wpS_of_wp ?_
  go_wp2_with fail
  exact ⟨rfl, FrameMode.returning, by rw [Hc0.out], _, results_none rfl _ _ _, rfl, rfl, rfl⟩
set_option maxRecDepth 100000 in
set_option maxHeartbeats 1000000 in
theorem thr1_pan (p : Nat) (k n : Int) (base : Nat) (Ty : TypeId) (v : Value) (old : List PanicEntry) (w : World) (htv : TVal n base w k Ty v) (hB : Blk w p 46 #[.bool false, .int .i64 0, .int .i64 0, .bool true]) :
    CallsD Try.prog 58 #[.pointer (some ⟨p, 0, none⟩)] (.panicking ({ v := .iface Ty v, recovered := false } :: old)) w fun e u' w' => e = .returned (.tuple #[]) ∧ u' = .panicking ({ v := .iface Ty v, recovered := true } :: old) ∧
      Blk w' p 46 #[.bool true, .int .i64 (wantN k n), .int .i64 0, .bool true] ∧ Only (fun b => b = p) w w' := by
  have c0 : w.cell? ⟨p, 0, none⟩ = some (.bool false) := hB.cell 0
  have c1 : w.cell? ⟨p, 1, none⟩ = some (.int .i64 0) := hB.cell 1
  have f0 := hB.frozen 0
  have f1 := hB.frozen 1
  have hpl := hB.lt
  have hfin : ∀ z : Int, z = wantN k n → Blk ((w.setCell ⟨p, 0, none⟩ (.bool true)).setCell ⟨p, 1, none⟩ (.int .i64 z)) p 46 #[.bool true, .int .i64 (wantN k n), .int .i64 0, .bool true] ∧ Only (fun b => b = p) w ((w.setCell ⟨p, 0, none⟩ (.bool true)).setCell ⟨p, 1, none⟩ (.int .i64 z)) := fun z hz => by
    subst hz
    have h1 := Blk.setL (cs := [.bool false, .int .i64 0, .int .i64 0, .bool true]) hB 0 (.bool true)
    have h2 := Blk.setL (cs := [.bool true, .int .i64 0, .int .i64 0, .bool true]) h1 1 (.int .i64 (wantN k n))
    exact ⟨h2, ((Only.refl (fun b => b = p) w).setCell (p := ⟨p, 0, none⟩) (.inl rfl) _).setCell (p := ⟨p, 1, none⟩) (.inl rfl) _⟩
  have Hfin := Lib.hid hfin
  clear hfin
  have a1 := as_ptr
  have a2 := as_int
  have a3 := as_str
  have a4 := int_no
  have a5 := str_no
  have a6 := str_no2
  refine callsD_of_wpS Try.func58 rfl fun c₀ cs hu => ?_
  simp only [Try.ntmps58]
  simp [Array.replicate]
  apply wpS_seq
  apply wpS_region
  simp [wpOpsS, go_sem, recoverD, hu, Exit.thenS]
  refine wpS_of_wp ?_
  cases htv with
  | ptr t hb ht =>
    have ct : w.cell? ⟨t, 0, none⟩ = some (.int .i64 n) := ht.cell 0
    have htl := ht.lt
    have htp : t ≠ p := fun e => by
      subst e
      have h1 := ht
      have h2 := hB
      unfold Blk at h1 h2
      rw [h2] at h1
      injection h1 with h4
      injection h4 with _ h5 _
      exact absurd h5 (by decide)
    have hz := Hfin.out n (by simp [wantN])
    have Hz := Lib.hid hz
    clear ht hB Hfin hz
    go_wp2_with fail
    exact ⟨rfl, _, rfl, _, results_none rfl _ _ _, rfl, rfl, Hz.out⟩
  | int =>
    have hz := Hfin.out n (by simp [wantN])
    have Hz := Lib.hid hz
    clear hB Hfin hz
    go_wp2_with fail
    exact ⟨rfl, _, rfl, _, results_none rfl _ _ _, rfl, rfl, Hz.out⟩
  | str s hs =>
    have hz := Hfin.out (s.size : Int) (by simp [wantN, hs])
    have Hz := Lib.hid hz
    clear hB Hfin hz hs
    go_wp2_with fail
    exact ⟨rfl, _, rfl, _, results_none rfl _ _ _, rfl, rfl, Hz.out⟩
end Go.Proofs.Ytefaapcekbgjoaa
