/- The law's Lend and Kept of instructions. -/
import Derived.Test.YtmmdkpnoncnjnaaInsK
namespace Go.Proofs.Ytmmdkpnoncnjnaa
open Go.RowKit

def markI (n j : Nat) : Ins := ⟨-9, ((n + j : Nat) : Int)⟩
/-- Instructions, k marks behind them, and room that is still empty. -/
def lentI (l : List Ins) (k M : Nat) : List Ins := l ++ ((List.range k).map (markI l.length) ++ List.replicate (M - k) ⟨0, 0⟩)
theorem length_lentI (l : List Ins) (k M : Nat) (h : k ≤ M) : (lentI l k M).length = l.length + M := by
  simp only [lentI, List.length_append, List.length_map, List.length_range, List.length_replicate]; omega
theorem set_lentI (l : List Ins) (k M : Nat) (h : k < M) : (lentI l k M).set (l.length + k) (markI l.length k) = lentI l (k + 1) M := by
  obtain ⟨m, hm⟩ : ∃ m, M - k = m + 1 := ⟨M - k - 1, by omega⟩
  have hm' : M - (k + 1) = m := by omega
  unfold lentI
  rw [hm, hm', List.set_append_right _ _ (by omega), Nat.add_sub_cancel_left, List.set_append_right _ _ (by simp), List.length_map, List.length_range, Nat.sub_self, List.replicate_succ, List.set_cons_zero, List.range_succ, List.map_append, List.append_assoc]
  rfl
theorem zeros_flat (k : Nat) : List.replicate (k * 2) (Value.int .i64 0) = (List.replicate k (⟨0, 0⟩ : Ins)).flatMap insCells := by
  induction k with
  | zero => rfl
  | succ k ih => rw [List.replicate_succ, List.flatMap_cons, ← ih, Nat.succ_mul, List.replicate_succ, List.replicate_succ]; rfl
theorem splice_zerosI (l : List Ins) (M : Nat) : splice (List.replicate ((l.length + M) * 2) (Value.int .i64 0)) 0 (l.flatMap insCells) = (lentI l 0 M).flatMap insCells := by
  unfold splice lentI
  rw [List.take_zero, List.nil_append, Nat.zero_add, insCells_len, List.drop_replicate, List.flatMap_append, show (l.length + M) * 2 - l.length * 2 = M * 2 from by omega, zeros_flat]
  rfl
theorem lentI_mark (l : List Ins) (k M : Nat) (h : k < M) : (lentI l M M)[l.length + k]? = some (markI l.length k) := by
  unfold lentI
  rw [List.getElem?_append_right (by omega), Nat.add_sub_cancel_left, List.getElem?_append_left (by simpa using h), List.getElem?_map, List.getElem?_range h]
  rfl
def LendIPost (w : World) (l : List Ins) (e : Ending) (w' : World) : Prop :=
  ∃ g, e = .returned (.slice (some ⟨g, 0, none⟩) l.length (l.length + 67)) ∧ BlkI w' g (lentI l 67 67) ∧ w.heap.size ≤ g ∧ Below w.heap.size w w'
theorem ins_size : (Try.prog.info? 48).map (·.size) = some 2 := by kernel_rfl
set_option maxRecDepth 100000 in
theorem lend_ins (A : Option Addr) (c : Nat) (l : List Ins) (w : World) (h : RV w A (l.flatMap insCells)) (hl : l.length ≤ 8796093021952) :
    Calls Try.prog 16 #[.slice A l.length c] w (LendIPost w l) := by
  have H := Lib.hid h
  clear h
  go_enter Try.func16, Try.ntmps16
  go_wp2_with (first
    | (refine wpList_makeN rfl (.tmp 7) (.tmp 7) (v := .int .i64 0) rfl Try.underlying30 ins_info (by decide) (by intro k hk; match k, hk with | 0, _ => rfl | 1, _ => rfl) .i64 .i64 _ (l.length + 67) rfl rfl (by simp) (by omega) (by unfold maxLen; omega) ?_; intro w1 hblk hb1 hz1)
    | (refine wpList_copyN rfl (.tmp 9) (.tmp 10) rfl Try.underlying30 ins_size (by decide) (g := w.heap.size) (off := 0) (n := l.length) rfl rfl hblk (H.out.below hb1) (insCells_len l) (by simp [Nat.min_def]) (by rw [insCells_len, List.length_replicate]; omega) (ins_one l) ?_; intro w2 hblk2 ho2 hz2))
  have hblk2' := hblk2
  rw [splice_zerosI] at hblk2'
  have hB2 : Below w.heap.size w w2 := hb1.trans (ho2.below hb1.size fun k hk => by omega)
  clear hblk hblk2 ho2
  go_loopw [4] (fun i wr => ∃ k : Nat, k ≤ 67 ∧ i = .int .i64 ((l.length + k : Nat) : Int) ∧ BlkI wr w.heap.size (lentI l k 67) ∧ Below w.heap.size w wr) (fun i _ => l.length + 67 - (intOf i).toNat)
  case atStart => exact ⟨0, by omega, by simp, hblk2', hB2⟩
  case round =>
    obtain ⟨k, hk, rfl, hblk, hB⟩ := hrel
    by_cases hlt : k < 67
    · have hlk : l.length + k < (lentI l k 67).length := by rw [length_lentI l k 67 hk]; omega
      obtain ⟨hc0, hc1⟩ := BlkI.at_ hblk (l.length + k) hlk
      have hf0 := hblk.frozen ((l.length + k) * 2)
      have hf1 := hblk.frozen ((l.length + k) * 2 + 1)
      have hb2 := BlkI.put hblk (l.length + k) hlk (markI l.length k)
      rw [set_lentI l k 67 hlt] at hb2
      have Hb2 := Lib.hid hb2
      generalize (lentI l k 67)[l.length + k] = y at *
      clear hb2
      go_wp2
      exact ⟨⟨k + 1, by omega, by go_num, Hb2.out, (hB.setCell (Nat.le_refl _) _).setCell (Nat.le_refl _) _⟩, by simp [intOf]; omega⟩
    · obtain rfl : k = 67 := by omega
      go_wp2
      go_ret
      exact ⟨w.heap.size, rfl, hblk, Nat.le_refl _, hB⟩
set_option maxRecDepth 100000 in
/-- Lent instructions are as they were, and are written over: nothing beside their block turns. -/
theorem kept_ins (A : Option Addr) (c g : Nat) (l : List Ins) (w : World) (h : RV w A (l.flatMap insCells)) (hblk : BlkI w g (lentI l 67 67)) (hl : l.length ≤ 8796093021952) :
    Calls Try.prog 19 #[.slice (some ⟨g, 0, none⟩) l.length (l.length + 67), .slice A l.length c] w fun e w' => e = .returned (.bool true) ∧ Only (fun k => k = g) w w' := by
  have hlent : RV w (some ⟨g, 0, none⟩) (l.flatMap insCells) := by
    have h1 := BlkI.rv hblk l.length (by rw [length_lentI _ _ _ (Nat.le_refl _)]; omega)
    rwa [show (lentI l 67 67).take l.length = l from by unfold lentI; rw [List.take_append_of_le_length (Nat.le_refl _), List.take_length]] at h1
  have hs := same_ins (some ⟨g, 0, none⟩) A (l.length + 67) c l l w hlent h (by omega) (by omega)
  rw [sameB_self] at hs
  have Hs := Lib.hid hs
  clear hs hlent h
  go_enter Try.func19, Try.ntmps19
  go_wp2_with fail
  refine Hs.out.mono ?_
  rintro e w1 ⟨rfl, n, rfl⟩
  have hblk1 : BlkI (w.drewN n) g (lentI l 67 67) := hblk
  go_wp2_with fail
  go_loop [5, 7] (fun r i => r = .bool true ∧ ∃ k : Nat, k ≤ 67 ∧ i = .int .i64 ((l.length + k : Nat) : Int)) (fun _ i => l.length + 67 - (intOf i).toNat)
  case atStart => exact ⟨rfl, 0, by omega, rfl⟩
  case round =>
    obtain ⟨rfl, k, hk, rfl⟩ := hrel
    by_cases hlt : k < 67
    · have hlk : l.length + k < (lentI l 67 67).length := by rw [length_lentI l 67 67 (Nat.le_refl _)]; omega
      obtain ⟨hc0, hc1⟩ := BlkI.at_ hblk (l.length + k) hlk
      have hm := lentI_mark l k 67 hlt
      rw [List.getElem?_eq_getElem hlk] at hm
      injection hm with hm
      rw [hm] at hc0 hc1
      replace hc0 : w.cell? ⟨g, (l.length + k) * 2, none⟩ = some (.int .i64 (-9)) := hc0
      replace hc1 : w.cell? ⟨g, (l.length + k) * 2 + 1, none⟩ = some (.int .i64 ((l.length + k : Nat) : Int)) := hc1
      clear hm
      go_wp2
      exact ⟨⟨rfl, k + 1, by omega, by go_num⟩, by simp [intOf]; omega⟩
    · obtain rfl : k = 67 := by omega
      go_wp2
      go_loopw [8] (fun i wr => ∃ (k : Nat) (ls : List Ins), k ≤ l.length + 67 ∧ i = .int .i64 k ∧ Hid (ls.length = l.length + 67) ∧ BlkI wr g ls ∧ Only (fun k => k = g) w wr) (fun i _ => l.length + 67 - (intOf i).toNat)
      case atStart => exact ⟨0, _, Nat.zero_le _, rfl, length_lentI l 67 67 (Nat.le_refl _), hblk1, Only.of_fresh (below_drewN (Below.refl _ _) _)⟩
      case round =>
        obtain ⟨j, ls, hj, rfl, hls, hb, hO⟩ := hrel
        by_cases hltj : j < l.length + 67
        · have hlj : j < ls.length := by rw [hls.out]; exact hltj
          obtain ⟨hc0, hc1⟩ := BlkI.at_ hb j hlj
          have hf0 := hb.frozen (j * 2)
          have hf1 := hb.frozen (j * 2 + 1)
          have hbs := Lib.hid (BlkI.put hb j hlj ⟨77, -7⟩)
          generalize ls[j] = y at *
          go_wp2
          exact ⟨⟨j + 1, _, by omega, by go_num, by show List.length _ = _; rw [List.length_set]; exact hls.out, hbs.out, (hO.setCell (.inl rfl) _).setCell (.inl rfl) _⟩, by simp [intOf]; omega⟩
        · go_wp2
          go_ret
          exact ⟨rfl, hO⟩
end Go.Proofs.Ytmmdkpnoncnjnaa
