/- Ahead of the law CheckLong's walks: its round, what a program is that was written to (printed by gen_clw.py). -/
import Derived.Test.YtcmpmhlcfalbhaaClCh
import Derived.Test.YtcmpmhlcfalbhaaClPa
import Derived.Test.YtcmpmhlcfalbhaaCkSi
import Derived.Test.YtcmpmhlcfalbhaaChW
import Derived.Deep.CutRange
namespace Go.Proofs.Ytcmpmhlcfalbhaa
open Go.RowKit

theorem roundL_any (i : Int) (n k : Nat) (hk : (k : Int) = i % (n : Int)) (hn : 0 < n) (hn2 : n ≤ 9223372036854775807) (w : World) :
    Calls Try.prog 11 #[.int .i64 i, .int .i64 (n : Int)] w fun e w' => e = .returned (.int .i64 (k : Int)) ∧ w' = w := by
  have h1 := Int.emod_nonneg i (b := (n : Int)) (by omega)
  have h2 := Int.emod_lt_of_pos i (b := (n : Int)) (by omega)
  have H3 := Lib.hid hk
  obtain ⟨t, ht⟩ : ∃ t, t = i.tmod (n : Int) := ⟨_, rfl⟩
  have htm := Int.tmod_add_mul_tdiv i (n : Int)
  have hlo : -(n : Int) < t ∧ t < n := by
    rw [ht]
    have := Int.lt_tmod_of_pos i (b := (n : Int)) (by omega)
    have := Int.tmod_lt_of_pos i (b := (n : Int)) (by omega)
    omega
  have hfin : (if t < 0 then t + (n : Int) else t) = i % (n : Int) := by
    have h : t = i - (n : Int) * i.tdiv n := by rw [ht]; omega
    by_cases h0 : t < 0
    · rw [if_pos h0]
      have : (t + (n : Int)) % (n : Int) = i % (n : Int) := by
        rw [h, Int.add_emod_right, Int.sub_mul_emod_self_left]
      rw [← this, Int.emod_eq_of_lt (by omega) (by omega)]
    · rw [if_neg h0]
      have : t % (n : Int) = i % (n : Int) := by rw [h, Int.sub_mul_emod_self_left]
      rw [← this, Int.emod_eq_of_lt (by omega) (by omega)]
  have Hfin := Lib.hid hfin
  have Ht := Lib.hid ht
  have hnn : ((n : Int) == 0) = false := by rw [beq_eq_false_iff_ne]; omega
  have hrem : i.tmod (n : Int) = t := ht.symm
  obtain ⟨hlo1, hlo2⟩ := hlo
  have hnpos : (1 : Int) ≤ n := by omega
  clear hfin ht htm h1 h2 hk
  by_cases h0 : t < 0
  · rw [if_pos h0] at Hfin
    go_enter Try.func11, Try.ntmps11
    go_wp2_with fail
    go_ret
    exact ⟨by rw [H3.out, ← Hfin.out]; rfl, rfl⟩
  · rw [if_neg h0] at Hfin
    go_enter Try.func11, Try.ntmps11
    go_wp2_with fail
    go_ret
    exact ⟨by rw [H3.out, ← Hfin.out]; rfl, rfl⟩
theorem okC {F C : Nat} {L : Int} {lp : Bool} (hF2 : F ≤ 64) (hC2 : C ≤ 4096) (hL : 0 ≤ L) (hL2 : L ≤ 64) : PrgOk (prgC F C L lp) := by
  refine ⟨Nat.zero_le _, by rw [prgG_len]; omega, of_decide_eq_true rfl, of_decide_eq_true rfl, fun g hg => ?_⟩
  obtain ⟨i, hi, rfl⟩ := prgG_mem hg
  refine ⟨fun x hx => ?_, by simp; omega, of_decide_eq_true rfl, of_decide_eq_true rfl, by dsimp only; omega, by dsimp only; omega, of_decide_eq_true rfl, of_decide_eq_true rfl⟩
  obtain ⟨k, hk, rfl⟩ := List.mem_map.1 hx
  obtain ⟨h, t, g, l, H⟩ := insC_is (F := F) (i := i) (k := k) (C := C) lp hi (List.mem_range.1 hk)
  generalize insC F C lp i k = x at H
  cases H with
  | call => exact ⟨of_decide_eq_true rfl, of_decide_eq_true rfl, by dsimp only; omega, by dsimp only; omega⟩
  | size => exact ⟨of_decide_eq_true rfl, of_decide_eq_true rfl, of_decide_eq_true rfl, of_decide_eq_true rfl⟩
  | loop => exact ⟨of_decide_eq_true rfl, of_decide_eq_true rfl, of_decide_eq_true rfl, of_decide_eq_true rfl⟩
  | num => exact ⟨of_decide_eq_true rfl, of_decide_eq_true rfl, of_decide_eq_true rfl, of_decide_eq_true rfl⟩
  | ret => exact ⟨of_decide_eq_true rfl, of_decide_eq_true rfl, of_decide_eq_true rfl, of_decide_eq_true rfl⟩
  | nop => exact ⟨of_decide_eq_true rfl, of_decide_eq_true rfl, of_decide_eq_true rfl, of_decide_eq_true rfl⟩
/-- One instruction of one function is another. -/
theorem prgG_set {F C : Nat} {L : Int} {ins ins' : Nat → Nat → Ins} {i k : Nat} {x : Ins} (hi : i < F) (hk : k < C) (h1 : ins' i k = x) (h2 : ∀ j m, j < F → m < C → ¬ (j = i ∧ m = k) → ins' j m = ins j m) :
    (⟨(prgG F C L ins).mem, (prgG F C L ins).data, (prgG F C L ins).fs.set i ⟨0, L, 1, ((List.range C).map (ins i)).set k x⟩⟩ : Prg) = prgG F C L ins' := by
  unfold prgG
  dsimp only
  congr 1
  refine List.ext_getElem? fun j => ?_
  by_cases hj : j < F
  · by_cases e : j = i
    · subst e
      rw [List.getElem?_set_self (by simpa using hj), List.getElem?_map, List.getElem?_range hj]
      show some _ = some _
      congr 2
      refine List.ext_getElem? fun m => ?_
      by_cases hm : m < C
      · by_cases e2 : m = k
        · subst e2
          rw [List.getElem?_set_self (by simpa using hm), List.getElem?_map, List.getElem?_range hm, ← h1]
          rfl
        · rw [List.getElem?_set_ne (Ne.symm e2), List.getElem?_map, List.getElem?_map, List.getElem?_range hm]
          show some _ = some _
          rw [h2 j m hj hm (fun h => e2 h.2)]
      · rw [List.getElem?_eq_none (by simp; omega), List.getElem?_eq_none (by simp; omega)]
    · rw [List.getElem?_set_ne (Ne.symm e), List.getElem?_map, List.getElem?_map, List.getElem?_range hj]
      have e3 : (List.range C).map (ins j) = (List.range C).map (ins' j) := List.map_congr_left fun m hm => (h2 j m hj (List.mem_range.1 hm) (fun h => e h.1)).symm
      show some (⟨0, L, 1, (List.range C).map (ins j)⟩ : Fun) = some ⟨0, L, 1, (List.range C).map (ins' j)⟩
      rw [e3]
  · rw [List.getElem?_eq_none (by simp; omega), List.getElem?_eq_none (by simp; omega)]
def insT (F C : Nat) (i k : Nat) : Ins := if i + 1 = F ∧ k + 3 = C then ⟨14, C⟩ else insC F C true i k
theorem blk_ne {w : World} {g g' : Nat} {t t' : TypeId} {cs cs' : Array Value} (h : Blk w g t cs) (h' : Blk w g' t' cs') (hne : t ≠ t') : g ≠ g' := by
  rintro rfl
  unfold Blk at h h'
  rw [h] at h'
  injection h' with h'
  injection h' with _ h'
  exact hne h'
theorem mine_blk {w w' : World} {base : Nat} {q : PrgM} {g : Nat} {t : TypeId} {cs : Array Value} (h : PrgMine w base q) (hg : Blk w g t cs) (h1 : 5 ≠ t) (h2 : 43 ≠ t) (h3 : 45 ≠ t) (ho : Only (fun b => b = g) w w') : PrgMine w' base q :=
  ⟨Own.only h.data ho fun b o e => own_blk_ne h.data hg h1 b (by rw [e]; rfl), Own.only h.funs ho fun b o e => own_blk_ne h.funs hg h2 b (by rw [e]; rfl), h.row.only ho fun f hf b e => own_blk_ne (h.row.code f hf) hg h3 b e⟩
theorem lps_len {F : Nat} {lp : Bool} {i : Nat} (hi : i < F) : (lpsC F lp).getD i [] = if lp = true ∧ i + 1 = F then [0, 1] else [] := by
  rw [List.getD_eq_getElem?_getD, List.getElem?_map, List.getElem?_range hi]
  rfl
end Go.Proofs.Ytcmpmhlcfalbhaa
