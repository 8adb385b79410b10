/- The walks of op's below and operands. -/
import Derived.Test.YtmmdkpnoncnjnaaOpD
import Derived.Test.YtmmdkpnoncnjnaaRdD
import Derived.Test.YtmmdkpnoncnjnaaStoreB
import Derived.Test.YtmmdkpnoncnjnaaHeldT
import Derived.Deep.RegionHeld3
namespace Go.Proofs.Ytmmdkpnoncnjnaa
open Go.RowKit

def fnV (k : FuncId) : Value := .func (.func k) #[] #[]
def mayV (p : Nat) : Value := .func (.func 71) #[] #[.pointer (some ⟨p, 0, none⟩)]
theorem size_operand : (Try.prog.info? 73).map (·.size) = some 3 := by kernel_rfl
set_option maxRecDepth 100000 in
theorem below_any (most : Int) (w : World) :
    Calls Try.prog 60 #[.int .i64 most] w fun e w' => e = .returned (.agg #[mayV w.heap.size, fnV 39, fnV 47]) ∧ Blk w' w.heap.size 3 #[.int .i64 most] ∧ Below w.heap.size w w' ∧ w'.heap.size = w.heap.size + 2 := by
  have hmf : ∀ (fn : Fn) (first cap : Array Value) (w : World), (Instr.makeFunc fn first cap).run Try.prog w = .ok (.func fn first cap) w := fun _ _ _ _ => rfl
  go_enter Try.func60, Try.ntmps60
  go_wp2_with (refine wpList_at 3 rfl ?_; refine wp_stop ?_)
  refine ⟨?_⟩
  obtain ⟨w1, hw1⟩ : ∃ w1, w1 = (w.alloc (.cells #[.int .i64 most] 3)).alloc (.cells #[.nilFunc, .nilFunc, .nilFunc] 73) := ⟨_, rfl⟩
  rw [← hw1]
  have hb1 : Below w.heap.size w w1 := by rw [hw1]; exact ((Below.refl _ _).alloc (Nat.le_refl _) _).alloc (by simp) _
  have hB1 : Blk w1 w.heap.size 3 #[.int .i64 most] := by rw [hw1]; exact (Blk.new w _ _).alloc _
  have hO1 : Blk w1 (w.heap.size + 1) 73 #[.nilFunc, .nilFunc, .nilFunc] := by
    rw [hw1]
    have h := Blk.new (w.alloc (.cells #[.int .i64 most] 3)) 73 #[.nilFunc, .nilFunc, .nilFunc]
    rw [World.size_alloc] at h
    exact h
  have hz1 : w1.heap.size = w.heap.size + 2 := by rw [hw1]; simp
  have Hb1 := Lib.hid hb1
  have HB1 := Lib.hid hB1
  have HO1 := Lib.hid hO1
  have Hz1 := Lib.hid hz1
  clear hw1 hb1 hB1 hO1 hz1
  go_wp2_with (refine wpList_atStore 73 (.tmp 2) (.tmp 4) rfl ?_; refine wp_stop ?_)
  refine ⟨?_⟩
  refine wpList_storeB rfl 73 (.tmp 2) (.tmp 4) rfl [mayV w.heap.size, fnV 39, fnV 47] rfl rfl HO1.out size_operand rfl (by intro v hv; simp only [List.mem_cons, List.not_mem_nil, or_false] at hv; rcases hv with rfl | rfl | rfl <;> rfl) ?_
  intro w2 hO2 hset hz2'
  have hz2 : w2.heap.size = w.heap.size + 2 := hz2'.trans Hz1.out
  have hB2 := HB1.out.only hset (by omega)
  have hb2 : Below w.heap.size w w2 := Hb1.out.trans (hset.below (by have := Hz1.out; omega) fun p hp e => by omega)
  have c0 : w2.cell? ⟨w.heap.size + 1, 0, none⟩ = some (mayV w.heap.size) := hO2.cell 0
  have c1 : w2.cell? ⟨w.heap.size + 1, 1, none⟩ = some (fnV 39) := hO2.cell 1
  have c2 : w2.cell? ⟨w.heap.size + 1, 2, none⟩ = some (fnV 47) := hO2.cell 2
  have hl2 := hO2.lt
  go_wp2_with fail
  refine bodyPost_ret (v := .agg #[mayV w.heap.size, fnV 39, fnV 47]) ?_ rfl ⟨rfl, hB2, hb2, hz2⟩
  simp [results, Try.results60, go_sem, c0, c1, c2]
/-- The operands' row: the kinds' functions; p k is the box of a bound. -/
def opsL (p : Nat → Nat) : List Value := [fnV 54, fnV 55, fnV 56, fnV 57, fnV 58, fnV 59,
  mayV (p 2), fnV 39, fnV 47, mayV (p 3), fnV 39, fnV 47, mayV (p 4), fnV 39, fnV 47,
  mayV (p 5), fnV 39, fnV 47, mayV (p 6), fnV 39, fnV 47]
/-- Most of an operand's kind: below it. -/
def mostL : Nat → Int
  | 2 => 64
  | 3 => 4096
  | 4 => 64
  | 5 => 5
  | _ => 256
structure OpsAt (w : World) (g : Nat) (p : Nat → Nat) : Prop where
  row : Blk w g 73 (opsL p).toArray
  box : ∀ k, 2 ≤ k → k ≤ 6 → Blk w (p k) 3 #[.int .i64 (mostL k)]
set_option maxRecDepth 100000 in
set_option maxHeartbeats 1000000 in
theorem operands_any (w : World) : Calls Try.prog 38 #[] w fun e w' => ∃ g p, e = .returned (.slice (some ⟨g, 0, none⟩) 7 7) ∧ OpsAt w' g p ∧ w.heap.size ≤ g ∧ (∀ k, 2 ≤ k → k ≤ 6 → w.heap.size ≤ p k) ∧ Below w.heap.size w w' := by
  go_enter Try.func38, Try.ntmps38
  go_wp2_with (refine wpList_atStore 73 (.tmp 1) (.tmp 3) rfl ?_; refine wp_stop ?_)
  refine ⟨?_⟩
  refine wpList_storeB rfl 73 (.tmp 1) (.tmp 3) rfl [fnV 54, fnV 55, fnV 56] rfl rfl (Blk.new w 73 #[.nilFunc, .nilFunc, .nilFunc]) size_operand rfl (by intro v hv; simp only [List.mem_cons, List.not_mem_nil, or_false] at hv; rcases hv with rfl | rfl | rfl <;> rfl) ?_
  intro w1 hA1 hO1 hz1
  have hb1 : Below w.heap.size w w1 := ((Below.refl _ _).alloc (Nat.le_refl _) _).trans ((hO1.below (B := w.heap.size) (by simp) fun q hq e => by omega))
  have hz1' : w1.heap.size = w.heap.size + 1 := hz1.trans (by simp)
  have HA1 := Lib.hid hA1
  have Hb1 := Lib.hid hb1
  have Hz1 := Lib.hid hz1'
  clear hA1 hO1 hz1 hb1 hz1'
  go_wp2_with (refine wpList_atStore 73 (.tmp 2) (.tmp 4) rfl ?_; refine wp_stop ?_)
  refine ⟨?_⟩
  refine wpList_storeB rfl 73 (.tmp 2) (.tmp 4) rfl [fnV 57, fnV 58, fnV 59] rfl rfl (Blk.new w1 73 #[.nilFunc, .nilFunc, .nilFunc]) size_operand rfl (by intro v hv; simp only [List.mem_cons, List.not_mem_nil, or_false] at hv; rcases hv with rfl | rfl | rfl <;> rfl) ?_
  intro w2 hB2 hO2 hz2
  have hb12 : Below w1.heap.size w1 w2 := ((Below.refl _ _).alloc (Nat.le_refl _) _).trans ((hO2.below (B := w1.heap.size) (by simp) fun q hq e => by omega))
  have hA2 := HA1.out.below hb12 (by have := Hz1.out; omega)
  have HB2 := Lib.hid (Hb1.out.trans (hb12.mono (by have := Hz1.out; omega)))
  have hz2' : w2.heap.size = w.heap.size + 2 := hz2.trans (by have := Hz1.out; simp; omega)
  have e1 := Hz1.out
  rw [e1] at hB2
  have a0 : w2.cell? ⟨w.heap.size, 0, none⟩ = some (fnV 54) := hA2.cell 0
  have a1 : w2.cell? ⟨w.heap.size, 1, none⟩ = some (fnV 55) := hA2.cell 1
  have a2 : w2.cell? ⟨w.heap.size, 2, none⟩ = some (fnV 56) := hA2.cell 2
  have b0 : w2.cell? ⟨w.heap.size + 1, 0, none⟩ = some (fnV 57) := hB2.cell 0
  have b1 : w2.cell? ⟨w.heap.size + 1, 1, none⟩ = some (fnV 58) := hB2.cell 1
  have b2 : w2.cell? ⟨w.heap.size + 1, 2, none⟩ = some (fnV 59) := hB2.cell 2
  have hl1 := hA2.lt
  have hl2 := hB2.lt
  have Hz2 := Lib.hid hz2'
  rw [e1]
  clear hB2 hO2 hz2 hb12 hA2 HA1 Hb1 Hz1 e1 hz2'
  unfold fnV at a0 a1 a2 b0 b1 b2
  go_wp2_with fail
  try simp only [Act.put]
  have hS : ∀ w' : World, Below w2.heap.size w2 w' → w'.cell? ⟨w.heap.size, 0, none⟩ = some (.func (.func 54) #[] #[]) ∧ w'.cell? ⟨w.heap.size, 1, none⟩ = some (.func (.func 55) #[] #[]) ∧ w'.cell? ⟨w.heap.size, 2, none⟩ = some (.func (.func 56) #[] #[]) ∧ w'.cell? ⟨w.heap.size + 1, 0, none⟩ = some (.func (.func 57) #[] #[]) ∧ w'.cell? ⟨w.heap.size + 1, 1, none⟩ = some (.func (.func 58) #[] #[]) ∧ w'.cell? ⟨w.heap.size + 1, 2, none⟩ = some (.func (.func 59) #[] #[]) := fun w' h => ⟨by rw [(bcell h).1 _ _ hl1]; exact a0, by rw [(bcell h).1 _ _ hl1]; exact a1, by rw [(bcell h).1 _ _ hl1]; exact a2, by rw [(bcell h).1 _ _ hl2]; exact b0, by rw [(bcell h).1 _ _ hl2]; exact b1, by rw [(bcell h).1 _ _ hl2]; exact b2⟩
  refine region_heldT 7 (fun w' => w'.cell? ⟨w.heap.size, 0, none⟩ = some (.func (.func 54) #[] #[]) ∧ w'.cell? ⟨w.heap.size, 1, none⟩ = some (.func (.func 55) #[] #[]) ∧ w'.cell? ⟨w.heap.size, 2, none⟩ = some (.func (.func 56) #[] #[]) ∧ w'.cell? ⟨w.heap.size + 1, 0, none⟩ = some (.func (.func 57) #[] #[]) ∧ w'.cell? ⟨w.heap.size + 1, 1, none⟩ = some (.func (.func 58) #[] #[]) ∧ w'.cell? ⟨w.heap.size + 1, 2, none⟩ = some (.func (.func 59) #[] #[])) (by kernel_rfl) (by decide) ?_
  refine HeadW.take 0 (v := .agg #[.func (.func 54) #[] #[], .func (.func 55) #[] #[], .func (.func 56) #[] #[]]) rfl (by kernel_rfl) (by kernel_rfl) (by kernel_rfl) (by decide) (by decide) (fun _ _ _ hL => seqB_ready hL.1) (by kernel_rfl) (by kernel_rfl) (fun _ _ _ h => h) (hS _ (below_drewN (Below.refl _ _) 1)) (.inl ⟨by rfl, by intro w hSw; (try dsimp only at hSw); go_simp⟩) ?_
  simp only [Act.put, List.setIfInBounds_toArray]
  refine HeadW.take 1 (v := .agg #[.func (.func 57) #[] #[], .func (.func 58) #[] #[], .func (.func 59) #[] #[]]) rfl (by kernel_rfl) (by kernel_rfl) (by kernel_rfl) (by decide) (by decide) (fun _ _ _ hL => seqB_ready hL.1) (by kernel_rfl) (by kernel_rfl) (fun _ _ _ h => h) (hS _ (below_drewN (Below.refl _ _) 1)) (.inl ⟨by rfl, by intro w hSw; (try dsimp only at hSw); go_simp⟩) ?_
  simp only [Act.put]
  obtain ⟨v2, hv2⟩ : ∃ v2, v2 = w2.drew := ⟨_, rfl⟩
  have hb2v : Below w2.heap.size w2 v2 := by rw [hv2]; exact below_drewN (Below.refl _ _) 1
  have hz2v : v2.heap.size = w2.heap.size := by rw [hv2]; rfl
  have Hz2v := Lib.hid hz2v
  have Hb2v := Lib.hid hb2v
  have HS := Lib.hid hS
  rw [← hv2]
  clear hv2 hz2v hb2v hS a0 a1 a2 b0 b1 b2
  refine HeadW.one 2 rfl (by decide) (by kernel_rfl) fun K hK => ?_
  go_simp
  refine (below_any 64 v2).mono ?_
  rintro e v3 ⟨rfl, hQ2, hbv3, hzv3⟩
  have HQ2 := Lib.hid hQ2
  have Hsv3 := Lib.hid hbv3
  have Hzv3 := Lib.hid hzv3
  have Hbv3 := Lib.hid (Hb2v.out.trans (hbv3.mono (by have := (Hb2v.out).size; omega)))
  refine hK.out _ _ (HS.out _ Hbv3.out) (fun hHeld => ?_)
  clear hK K hHeld hQ2 hbv3 hzv3
  refine HeadW.one 3 rfl (by decide) (by kernel_rfl) fun K hK => ?_
  go_simp
  refine (below_any 4096 v3).mono ?_
  rintro e v4 ⟨rfl, hQ3, hbv4, hzv4⟩
  have HQ3 := Lib.hid hQ3
  have Hsv4 := Lib.hid hbv4
  have Hzv4 := Lib.hid hzv4
  have Hbv4 := Lib.hid (Hbv3.out.trans (hbv4.mono (by have := (Hbv3.out).size; omega)))
  refine hK.out _ _ (HS.out _ Hbv4.out) (fun hHeld => ?_)
  clear hK K hHeld hQ3 hbv4 hzv4
  refine HeadW.one 4 rfl (by decide) (by kernel_rfl) fun K hK => ?_
  go_simp
  refine (below_any 64 v4).mono ?_
  rintro e v5 ⟨rfl, hQ4, hbv5, hzv5⟩
  have HQ4 := Lib.hid hQ4
  have Hsv5 := Lib.hid hbv5
  have Hzv5 := Lib.hid hzv5
  have Hbv5 := Lib.hid (Hbv4.out.trans (hbv5.mono (by have := (Hbv4.out).size; omega)))
  refine hK.out _ _ (HS.out _ Hbv5.out) (fun hHeld => ?_)
  clear hK K hHeld hQ4 hbv5 hzv5
  refine HeadW.one 5 rfl (by decide) (by kernel_rfl) fun K hK => ?_
  go_simp
  refine (below_any 5 v5).mono ?_
  rintro e v6 ⟨rfl, hQ5, hbv6, hzv6⟩
  have HQ5 := Lib.hid hQ5
  have Hsv6 := Lib.hid hbv6
  have Hzv6 := Lib.hid hzv6
  have Hbv6 := Lib.hid (Hbv5.out.trans (hbv6.mono (by have := (Hbv5.out).size; omega)))
  refine hK.out _ _ (HS.out _ Hbv6.out) (fun hHeld => ?_)
  clear hK K hHeld hQ5 hbv6 hzv6
  refine HeadW.one 6 rfl (by decide) (by kernel_rfl) fun K hK => ?_
  go_simp
  refine (below_any 256 v6).mono ?_
  rintro e v7 ⟨rfl, hQ6, hbv7, hzv7⟩
  have HQ6 := Lib.hid hQ6
  have Hsv7 := Lib.hid hbv7
  have Hzv7 := Lib.hid hzv7
  have Hbv7 := Lib.hid (Hbv6.out.trans (hbv7.mono (by have := (Hbv6.out).size; omega)))
  refine hK.out _ _ (HS.out _ Hbv7.out) (fun hHeld => ?_)
  clear hK K hHeld hQ6 hbv7 hzv7
  refine fun _ => ⟨by kernel_rfl, ?_⟩
  go_wp2_with fail
  have s2 := Hz2.out
  have s2v := Hz2v.out
  have s3 := Hzv3.out
  have s4 := Hzv4.out
  have s5 := Hzv5.out
  have s6 := Hzv6.out
  have s7 := Hzv7.out
  obtain ⟨p, hp⟩ : ∃ p : Nat → Nat, p = fun k => if k = 2 then v2.heap.size else if k = 3 then v3.heap.size else if k = 4 then v4.heap.size else if k = 5 then v5.heap.size else v6.heap.size := ⟨_, rfl⟩
  have q2 : p 2 = v2.heap.size := by rw [hp]; rfl
  have q3 : p 3 = v3.heap.size := by rw [hp]; rfl
  have q4 : p 4 = v4.heap.size := by rw [hp]; rfl
  have q5 : p 5 = v5.heap.size := by rw [hp]; rfl
  have q6 : p 6 = v6.heap.size := by rw [hp]; rfl
  have hBb : Below w.heap.size w v7 := HB2.out.trans (Hbv7.out.mono (by omega))
  have ha : Below v7.heap.size v7 (v7.alloc (.cells (opsL p).toArray 73)) := (Below.refl _ _).alloc (Nat.le_refl _) _
  have hrow : Blk (v7.alloc (.cells (opsL p).toArray 73)) v7.heap.size 73 (opsL p).toArray := Blk.new _ _ _
  have x2 := (((HQ2.out.below Hsv4.out (by omega)).below Hsv5.out (by omega)).below Hsv6.out (by omega)).below Hsv7.out (by omega)
  have x3 := ((HQ3.out.below Hsv5.out (by omega)).below Hsv6.out (by omega)).below Hsv7.out (by omega)
  have x4 := (HQ4.out.below Hsv6.out (by omega)).below Hsv7.out (by omega)
  have x5 := HQ5.out.below Hsv7.out (by omega)
  have hops : OpsAt (v7.alloc (.cells (opsL p).toArray 73)) v7.heap.size p := by
    refine ⟨hrow, fun k h1 h2 => ?_⟩
    have hk : k = 2 ∨ k = 3 ∨ k = 4 ∨ k = 5 ∨ k = 6 := by omega
    rcases hk with rfl | rfl | rfl | rfl | rfl
    · rw [q2]; exact x2.below ha (by omega)
    · rw [q3]; exact x3.below ha (by omega)
    · rw [q4]; exact x4.below ha (by omega)
    · rw [q5]; exact x5.below ha (by omega)
    · rw [q6]; exact HQ6.out.below ha (by omega)
  have hpl : ∀ k, 2 ≤ k → k ≤ 6 → w.heap.size ≤ p k := fun k h1 h2 => by
    have hk : k = 2 ∨ k = 3 ∨ k = 4 ∨ k = 5 ∨ k = 6 := by omega
    rcases hk with rfl | rfl | rfl | rfl | rfl
    · rw [q2]; omega
    · rw [q3]; omega
    · rw [q4]; omega
    · rw [q5]; omega
    · rw [q6]; omega
  rw [← q2, ← q3, ← q4, ← q5, ← q6]
  go_ret
  exact ⟨v7.heap.size, p, rfl, hops, by omega, hpl, hBb.trans (ha.mono (by omega))⟩
end Go.Proofs.Ytmmdkpnoncnjnaa
