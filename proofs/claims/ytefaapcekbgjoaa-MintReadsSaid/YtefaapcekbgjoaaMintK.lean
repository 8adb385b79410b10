/- Several texts in one: Nums Facts MintA MintB MintC MintD. -/
import Derived.Below
import Derived.Laws.Bits64
import Derived.Laws.Wrap64
import Derived.IntWalk
import Derived.Test.YtefaapcekbgjoaaChecked
import Derived.Test.YtefaapcekbgjoaaBaseK
import Derived.BigQuiet
import Derived.Deep.QuietTactic
namespace Go.Proofs.Ytefaapcekbgjoaa

section
/- Numbers' forms as bytes, in plain Lean: how many bytes a number has, these, the form of chapter 1. -/

/-- The k lowest bytes of u, the highest first. -/
def beBytes (u : Nat) : Nat → List UInt8
  | 0 => []
  | k + 1 => UInt8.ofNat (u / 2 ^ (8 * k)) :: beBytes u k
/-- How many bytes u has, at most k are looked at. -/
def byteCnt (u : Nat) : Nat → Nat
  | 0 => 0
  | k + 1 => if u / 2 ^ (8 * k) = 0 then byteCnt u k else k + 1
/-- A number's form. -/
def formL (u : Nat) : List UInt8 := if u < 248 then [UInt8.ofNat u] else UInt8.ofNat (247 + byteCnt u 8) :: beBytes u (byteCnt u 8)

theorem length_beBytes (u k : Nat) : (beBytes u k).length = k := by induction k with | zero => rfl | succ k ih => simp [beBytes, ih]
theorem byteCnt_le (u k : Nat) : byteCnt u k ≤ k := by
  induction k with
  | zero => simp [byteCnt]
  | succ k ih => unfold byteCnt; split <;> omega
theorem byteCnt_pos (u k : Nat) (h : 0 < u) (hk : u < 2 ^ (8 * k)) : 0 < byteCnt u k := by
  induction k with
  | zero => simp at hk; omega
  | succ k ih =>
    unfold byteCnt
    split
    · rename_i h0
      refine ih ?_
      rcases Nat.div_eq_zero_iff.1 h0 with h1 | h1
      · have := Nat.two_pow_pos (8 * k); omega
      · exact h1
    · omega
theorem byteCnt_stop (u k : Nat) (h : ¬ u / 2 ^ (8 * k) = 0) : byteCnt u (k + 1) = k + 1 := by unfold byteCnt; rw [if_neg h]
theorem byteCnt_step (u k : Nat) (h : u / 2 ^ (8 * k) = 0) : byteCnt u (k + 1) = byteCnt u k := by conv => lhs; unfold byteCnt; rw [if_pos h]
theorem length_formL (u : Nat) : (formL u).length = if u < 248 then 1 else 1 + byteCnt u 8 := by
  unfold formL
  split
  · rfl
  · simp [length_beBytes, Nat.add_comm]
theorem formL_le (u : Nat) : (formL u).length ≤ 9 := by
  rw [length_formL]
  have := byteCnt_le u 8
  split <;> omega
theorem formL_pos (u : Nat) : 0 < (formL u).length := by
  rw [length_formL]
  split <;> omega
theorem toNat_ofNat8 (n : Nat) : (UInt8.ofNat n).toNat = n % 256 := rfl

/-- An int as a number without a sign. -/
def foldN (n : Int) : Nat := if n < 0 then (2 * (0 - (n + 1)) + 1).toNat else (2 * n).toNat
theorem foldN_lt (n : Int) (h1 : -9223372036854775808 ≤ n) (h2 : n < 9223372036854775808) : foldN n < 18446744073709551616 := by
  unfold foldN; split <;> omega
theorem xor_ones (a : Nat) (h : a < 18446744073709551616) : a ^^^ 18446744073709551615 = 18446744073709551615 - a := by
  have h1 : (BitVec.ofNat 64 a ^^^ BitVec.allOnes 64).toNat = (~~~ BitVec.ofNat 64 a).toNat := by rw [BitVec.xor_allOnes]
  rw [BitVec.toNat_xor, BitVec.toNat_not, BitVec.toNat_ofNat, BitVec.toNat_allOnes, Nat.mod_eq_of_lt (by omega)] at h1
  exact h1
theorem fold_bits (n : Int) (h1 : -9223372036854775808 ≤ n) (h2 : n < 9223372036854775808) :
    bits .xor .u64 (IntKind.u64.wrap (IntKind.u64.wrap n * 2)) (IntKind.u64.wrap (n / 9223372036854775808)) = (foldN n : Int) := by
  rw [IntKind.wrap_u64, IntKind.wrap_u64, IntKind.wrap_u64]
  by_cases h : n < 0
  · have e1 : n % 18446744073709551616 * 2 % 18446744073709551616 = ((2 * n + 18446744073709551616).toNat : Int) := by omega
    have e2 : n / 9223372036854775808 % 18446744073709551616 = ((18446744073709551615 : Nat) : Int) := by omega
    rw [e1, e2, bits_xor_u64_nat _ _ (by omega) (by omega), xor_ones _ (by omega)]
    unfold foldN
    rw [if_pos h]
    omega
  · have e1 : n % 18446744073709551616 * 2 % 18446744073709551616 = ((2 * n).toNat : Int) := by omega
    have e2 : n / 9223372036854775808 % 18446744073709551616 = ((0 : Nat) : Int) := by omega
    rw [e1, e2, bits_xor_u64_nat _ _ (by omega) (by omega), Nat.xor_zero]
    unfold foldN
    rw [if_neg h]
end

section
/- Facts of the loaded program's types. -/
theorem byte_info : (Try.prog.info? 5).map (fun i => (i.zero, i.size, i.bytes)) = some (some (.int .u8 0), 1, 1) := by kernel_rfl
theorem elem_of {P : Program} {t e : TypeId} {z : Value} {size bytes : Nat} (ht : P.underlying t = some (.slice e)) (h : (P.info? e).map (fun i => (i.zero, i.size, i.bytes)) = some (some z, size, bytes))
    (hz : z.cells.size = size) (hs : 0 < size) : Elem P t e size bytes := by
  obtain ⟨i, hi, h1, h2, h3⟩ := info_parts h
  exact ⟨ht, ⟨i, z, hi, h1, h2, h3, hz⟩, hs⟩
theorem eByte : Elem Try.prog 22 5 1 1 := elem_of Try.underlying22 byte_info rfl (by decide)
/-- A slice of bytes of the call's own. -/
abbrev OwnB (w : World) (base : Nat) (A : Option Addr) (n c : Nat) (xs : List UInt8) : Prop := Own w base 5 1 A n c (xs.map bv)
theorem OwnB.len {w : World} {base n c : Nat} {A : Option Addr} {xs : List UInt8} (h : OwnB w base A n c xs) : xs.length = n := by
  have := h.1
  simpa using this
theorem OwnB.app {w : World} {base n m c : Nat} {A : Option Addr} {xs ys : List UInt8} (h : Own w base 5 1 A (n + m) c (xs.map bv ++ ys.map bv)) (hn : xs.length = n) (hm : ys.length = m) : OwnB w base A (xs ++ ys).length c (xs ++ ys) := by
  subst hn hm
  rw [List.length_append]
  show Own w base 5 1 A _ c ((xs ++ ys).map bv)
  rw [List.map_append]
  exact h
end

section
/- Contracts of package mint: New, form. -/
open Go.RowKit

theorem new_any (w : World) :
    Calls Try.prog 16 #[] w fun e w' => e = .returned (.pointer (some ⟨w.heap.size, 0, none⟩)) ∧ w' = w.alloc (.cells #[.slice none 0 0, .int .i64 0] 94) := by
  go_enter Try.func16, Try.ntmps16
  go_wp2
  go_ret
  exact ⟨rfl, rfl⟩

theorem form_small (u : Nat) (w : World) (h : u < 248) :
    Calls Try.prog 57 #[.int .u64 u] w fun e w' => ∃ A c, e = .returned (.slice A (formL u).length c) ∧ OwnB w' w.heap.size A (formL u).length c (formL u) ∧ Below w.heap.size w w' := by
  have h1 : (u : Int) < 248 := by omega
  go_enter Try.func57, Try.ntmps57
  go_wp2
  go_ret
  have e1 : formL u = [UInt8.ofNat u] := by unfold formL; rw [if_pos h]
  have e2 : (Value.int .u8 (u : Int)) = bv (UInt8.ofNat u) := by unfold bv; rw [toNat_ofNat8, Nat.mod_eq_of_lt (by omega)]
  rw [e1]
  refine ⟨_, _, rfl, ?_, (Below.refl _ _).alloc (Nat.le_refl _) _⟩
  rw [e2]
  exact Own.lit w _ 1 1 #[bv (UInt8.ofNat u)] (Nat.le_refl _) (by decide) rfl

theorem form_big (u : Nat) (w : World) (h : ¬ u < 248) (hu : u < 18446744073709551616) :
    Calls Try.prog 57 #[.int .u64 u] w fun e w' => ∃ A c, e = .returned (.slice A (formL u).length c) ∧ OwnB w' w.heap.size A (formL u).length c (formL u) ∧ Below w.heap.size w w' := by
  have h1 : ¬ (u : Int) < 248 := by omega
  have Hu := Lib.hid hu
  clear hu
  go_enter Try.func57, Try.ntmps57
  go_wp2
  go_loop [3] (fun i => ∃ k : Nat, 1 ≤ k ∧ k ≤ 8 ∧ i = .int .i64 k ∧ Hid (byteCnt u 8 = byteCnt u k)) (fun i => (intOf i).toNat)
  case atStart => exact ⟨8, by omega, by omega, rfl, rfl⟩
  case round =>
    obtain ⟨k, hk, hk2, rfl, HC⟩ := hrel
    by_cases h0 : u / 2 ^ (8 * (k - 1)) = 0
    · have hd : ((u : Int) / 2 ^ (8 * (k - 1)) == 0) = true := by rw [beq_iff_eq]; exact_mod_cast h0
      have hk1 : 2 ≤ k := by
        rcases Nat.lt_or_ge k 2 with hlt | hge
        · obtain rfl : k = 1 := by omega
          simp at h0
          omega
        · exact hge
      have HC' : Hid (byteCnt u 8 = byteCnt u (k - 1)) := by
        have e := byteCnt_step u (k - 1) h0
        rw [Nat.sub_add_cancel hk] at e
        exact HC.out.trans e
      clear h0 HC
      go_wp2
      exact ⟨⟨k - 1, by omega, by omega, by go_num, HC'⟩, by simp [intOf]; omega⟩
    · have hd : ((u : Int) / 2 ^ (8 * (k - 1)) == 0) = false := by rw [beq_eq_false_iff_ne]; exact_mod_cast h0
      have HC' : Hid (byteCnt u 8 = k) := by
        have e := byteCnt_stop u (k - 1) h0
        rw [Nat.sub_add_cancel hk] at e
        exact HC.out.trans e
      clear h0 HC
      go_wp2
      clear hd
      go_loopw [4, 5] (fun v i wr => ∃ (j : Nat) (pre : List UInt8) (A : Option Addr) (c : Nat), j ≤ k ∧ i = .int .i64 ((j : Int) - 1) ∧ v = .slice A pre.length c ∧ OwnB wr w.heap.size A pre.length c pre ∧ Below w.heap.size w wr ∧ Hid (pre ++ beBytes u j = formL u)) (fun _ i _ => (intOf i + 1).toNat)
      case atStart =>
        refine ⟨k, [UInt8.ofNat (247 + k)], _, _, Nat.le_refl _, rfl, rfl, ?_, (Below.refl _ _).alloc (Nat.le_refl _) _, ?_⟩
        · have e2 : (Value.int .u8 (247 + (k : Int))) = bv (UInt8.ofNat (247 + k)) := by
            unfold bv; rw [toNat_ofNat8, Nat.mod_eq_of_lt (by omega)]; congr 1
          rw [e2]
          exact Own.lit w _ 1 1 #[bv (UInt8.ofNat (247 + k))] (Nat.le_refl _) (by decide) rfl
        · show [UInt8.ofNat (247 + k)] ++ beBytes u k = formL u
          unfold formL
          rw [if_neg h, HC'.out]
          rfl
      case round =>
        obtain ⟨j, pre, A, c, hj, rfl, rfl, hown, hB, HP⟩ := hrel
        have hpl : pre.length + j ≤ 9 := by
          have e := congrArg List.length HP.out
          have := formL_le u
          rw [List.length_append, length_beBytes] at e
          omega
        by_cases h0 : j = 0
        · subst h0
          go_wp2
          go_ret
          have HP' : pre = formL u := by have := HP.out; simpa [beBytes] using this
          subst HP'
          exact ⟨A, c, rfl, hown, hB⟩
        · obtain ⟨i, rfl⟩ : ∃ i : Nat, j = i + 1 := ⟨j - 1, by omega⟩
          have e : (((i + 1 : Nat) : Int) - 1) = (i : Int) := by omega
          rw [e]
          clear e h0
          have hx : Value.int .u8 ((u : Int) / 2 ^ (8 * i) % 256) = bv (UInt8.ofNat (u / 2 ^ (8 * i))) := by
            unfold bv; rw [toNat_ofNat8]; congr 1
          have Hx := Lib.hid hx
          clear hx
          go_wp2_with (at_builtin; refine wpList_app rfl (.tmp 29) (.tmp 35) eByte rfl (base := w.heap.size) (n := pre.length) (c := c) (A := A) (vs := pre.map bv) rfl (hown.alloc _) (A' := some ⟨wr.heap.size, 0, none⟩) (m := 1) (c' := 1) (us := [bv (UInt8.ofNat (u / 2 ^ (8 * i)))]) rfl (by rw [← Hx.out]; exact RV.of_blk (Blk.new wr _ #[_])) rfl (map_bv_one [_]) (by unfold maxLen; omega) (by omega) (by have := hB.size; simp only [World.size_alloc]; omega) (by simp) ?_; intro A2 c2 w2 hown2 hg2 hat2)
          have hB2 : Below w.heap.size w w2 := (hB.alloc hB.size _).grown hg2 (by have := hB.size; simp only [World.size_alloc]; omega) fun k hk => (hown.row k hk).1
          exact ⟨⟨i, pre ++ [UInt8.ofNat (u / 2 ^ (8 * i))], A2, c2, by omega, rfl, by rw [List.length_append]; exact rfl, OwnB.app (ys := [_]) hown2 rfl rfl, hB2, by
            have e := HP.out
            show pre ++ [_] ++ beBytes u i = formL u
            rw [← e, List.append_assoc]; exact rfl⟩, by simp [intOf]⟩

/-- A number's form, made anew. -/
theorem form_any (u : Nat) (w : World) (hu : u < 18446744073709551616) :
    Calls Try.prog 57 #[.int .u64 u] w fun e w' => ∃ A c, e = .returned (.slice A (formL u).length c) ∧ OwnB w' w.heap.size A (formL u).length c (formL u) ∧ Below w.heap.size w w' := by
  by_cases h : u < 248
  · exact form_small u w h
  · exact form_big u w h hu
end

section
/- Contract of mint's (*Writer).add. -/
open Go.RowKit

/-- One of the lists that add takes: its place, its capacity, its bytes. -/
structure Part where
  A : Option Addr
  c : Nat
  ys : List UInt8
/-- Block lb holds the parts' slices one behind the other, and each reads as its bytes. -/
structure PartsAt (w : World) (lb : Nat) (ps : List Part) : Prop where
  lt : lb < w.heap.size
  cell : ∀ k (h : k < ps.length), w.cell? ⟨lb, k, none⟩ = some (.slice ps[k].A ps[k].ys.length ps[k].c)
  rv : ∀ k (h : k < ps.length), RV w ps[k].A (ps[k].ys.map bv)
  nil : ∀ k (h : k < ps.length), ps[k].A = none → ps[k].ys.length = 0 ∧ ps[k].c = 0
def total (ps : List Part) : Nat := (ps.map fun p => p.ys.length).sum
def cat (ps : List Part) : List UInt8 := (ps.map fun p => p.ys).flatten
theorem total_take (ps : List Part) (k : Nat) (h : k < ps.length) : total (ps.take (k + 1)) = total (ps.take k) + ps[k].ys.length := by
  unfold total
  rw [List.take_succ_eq_append_getElem h, List.map_append, List.sum_append]
  rfl
theorem total_le (ps : List Part) (k : Nat) : total (ps.take k) ≤ total ps := by
  unfold total
  conv => rhs; rw [← List.take_append_drop k ps]
  rw [List.map_append, List.sum_append]
  exact Nat.le_add_right _ _
theorem cat_take (ps : List Part) (k : Nat) (h : k < ps.length) : cat (ps.take (k + 1)) = cat (ps.take k) ++ ps[k].ys := by
  unfold cat
  rw [List.take_succ_eq_append_getElem h, List.map_append, List.flatten_append]
  simp
theorem length_cat (ps : List Part) : (cat ps).length = total ps := by
  unfold cat total
  rw [List.length_flatten, List.map_map]
  rfl
theorem PartsAt.only {S : Nat → Prop} {w w' : World} {lb : Nat} {ps : List Part} (h : PartsAt w lb ps) (ho : Only S w w') (h1 : ¬ S lb) (h2 : ∀ k (hk : k < ps.length) b o, 0 < ps[k].ys.length → ps[k].A = some ⟨b, o, none⟩ → ¬ S b) : PartsAt w' lb ps :=
  ⟨Nat.lt_of_lt_of_le h.lt ho.size, fun k hk => (ho.cell (p := ⟨lb, k, none⟩) h.lt h1).trans (h.cell k hk), fun k hk => (h.rv k hk).only ho fun h0 b o hA => h2 k hk b o (List.length_pos_iff.2 fun e => h0 (by rw [e]; rfl)) hA, h.nil⟩

/-- Block g is a Writer that holds xs and the fault f; its bytes lie at A. -/
structure Wr (w : World) (base g : Nat) (A : Option Addr) (c : Nat) (xs : List UInt8) (f : Int) : Prop where
  blk : Blk w g 94 #[.slice A xs.length c, .int .i64 f]
  own : OwnB w base A xs.length c xs
theorem Wr.c0 {w : World} {base g : Nat} {A : Option Addr} {c : Nat} {xs : List UInt8} {f : Int} (h : Wr w base g A c xs f) : w.cell? ⟨g, 0, none⟩ = some (.slice A xs.length c) := by rw [h.blk.cell]; rfl
theorem Wr.c1 {w : World} {base g : Nat} {A : Option Addr} {c : Nat} {xs : List UInt8} {f : Int} (h : Wr w base g A c xs f) : w.cell? ⟨g, 1, none⟩ = some (.int .i64 f) := by rw [h.blk.cell]; rfl
/-- The blocks of a Writer. -/
def wrS (g : Nat) (A : Option Addr) (k : Nat) : Prop := k = g ∨ A.map (·.block) = some k

theorem add_bad (base g lb : Nat) (A : Option Addr) (c : Nat) (xs : List UInt8) (f : Int) (ps : List Part) (w : World) (hW : Wr w base g A c xs f) (hP : PartsAt w lb ps)
    (hf : f ≠ 0) (hx : xs.length ≤ 4194304) (ht : total ps ≤ 1000000000000000) (hn : ps.length ≤ 1000) :
    Calls Try.prog 55 #[.pointer (some ⟨g, 0, none⟩), .slice (some ⟨lb, 0, none⟩) ps.length ps.length] w fun e w' => e = .returned (.tuple #[]) ∧ w = w' := by
  have hc0 := hW.c0
  have hc1 := hW.c1
  have hgl := hW.blk.lt
  have hf1 : (f == 0) = false := by rw [beq_eq_false_iff_ne]; exact hf
  clear hf
  go_enter Try.func55, Try.ntmps55
  go_wp2
  go_loop [4, 16] (fun n i => ∃ k : Nat, k ≤ ps.length ∧ i = .int .i64 k ∧ n = .int .i64 ((xs.length + total (ps.take k) : Nat) : Int)) (fun _ i => ps.length - (intOf i).toNat)
  case atStart => exact ⟨0, Nat.zero_le _, rfl, by simp [total]⟩
  case round =>
    obtain ⟨k, hk, rfl, rfl⟩ := hrel
    have htl := total_le ps k
    by_cases hlt : k < ps.length
    · have hck := hP.cell k hlt
      have hts := Lib.hid (total_take ps k hlt)
      have htl2 := total_le ps (k + 1)
      rw [hts.out] at htl2
      go_wp2
      exact ⟨⟨k + 1, by omega, by go_num, by rw [hts.out]; go_num⟩, by simp [intOf]; omega⟩
    · go_wp2
      go_loop [39] (fun i => ∃ k : Nat, k ≤ ps.length ∧ i = .int .i64 k) (fun i => ps.length - (intOf i).toNat)
      case atStart => exact ⟨0, Nat.zero_le _, rfl⟩
      case round =>
        obtain ⟨j, hj, rfl⟩ := hrel
        by_cases hltj : j < ps.length
        · have hck := hP.cell j hltj
          go_wp2
          exact ⟨⟨j + 1, by omega, by go_num⟩, by simp [intOf]; omega⟩
        · go_wp2
          go_end0
          exact ⟨rfl, rfl⟩

theorem add_over (base g lb : Nat) (A : Option Addr) (c : Nat) (xs : List UInt8) (ps : List Part) (w : World) (hW : Wr w base g A c xs 0) (hP : PartsAt w lb ps)
    (hx : xs.length ≤ 4194304) (hover : 4194304 < xs.length + total ps) (ht : total ps ≤ 1000000000000000) (hn : ps.length ≤ 1000) (hne : lb ≠ g) :
    Calls Try.prog 55 #[.pointer (some ⟨g, 0, none⟩), .slice (some ⟨lb, 0, none⟩) ps.length ps.length] w fun e w' => e = .returned (.tuple #[]) ∧ w.setCell ⟨g, 1, none⟩ (.int .i64 2) = w' := by
  have hc0 := hW.c0
  have hc1 := hW.c1
  have hf1 := hW.blk.frozen 1
  have hgl := hW.blk.lt
  go_enter Try.func55, Try.ntmps55
  go_wp2
  go_loop [4, 16] (fun n i => ∃ k : Nat, k ≤ ps.length ∧ i = .int .i64 k ∧ n = .int .i64 ((xs.length + total (ps.take k) : Nat) : Int)) (fun _ i => ps.length - (intOf i).toNat)
  case atStart => exact ⟨0, Nat.zero_le _, rfl, by simp [total]⟩
  case round =>
    obtain ⟨k, hk, rfl, rfl⟩ := hrel
    have htl := total_le ps k
    by_cases hlt : k < ps.length
    · have hck := hP.cell k hlt
      have hts := Lib.hid (total_take ps k hlt)
      have htl2 := total_le ps (k + 1)
      rw [hts.out] at htl2
      go_wp2
      exact ⟨⟨k + 1, by omega, by go_num, by rw [hts.out]; go_num⟩, by simp [intOf]; omega⟩
    · obtain rfl : k = ps.length := by omega
      have htk : total (ps.take ps.length) = total ps := by rw [List.take_length]
      rw [htk]
      clear htk
      have hover' : (4194304 : Int) < ((xs.length + total ps : Nat) : Int) := by omega
      go_wp2
      have hcl : (w.setCell ⟨g, 1, none⟩ (.int .i64 2)).cell? ⟨g, 1, none⟩ = some (.int .i64 2) := World.cell?_setCell_same (w := w) (a := ⟨g, 1, none⟩) (v := .int .i64 2) hc1
      obtain ⟨w1, hw1⟩ : ∃ w1, w1 = w.setCell ⟨g, 1, none⟩ (.int .i64 2) := ⟨_, rfl⟩
      have hcells : ∀ j (h : j < ps.length), w1.cell? ⟨lb, j, none⟩ = some (.slice ps[j].A ps[j].ys.length ps[j].c) := by
        intro j h
        rw [hw1, World.cell?_setCell_other _ _ _ _ (fun e => by injection e with e1; exact hne e1.symm)]
        exact hP.cell j h
      rw [← hw1] at hcl ⊢
      have Hw1 := Lib.hid hw1
      clear hw1 hc1 hf1
      go_loop [39] (fun i => ∃ k : Nat, k ≤ ps.length ∧ i = .int .i64 k) (fun i => ps.length - (intOf i).toNat)
      case atStart => exact ⟨0, Nat.zero_le _, rfl⟩
      case round =>
        obtain ⟨j, hj, rfl⟩ := hrel
        by_cases hltj : j < ps.length
        · have hck := hcells j hltj
          clear hcells
          go_wp2
          exact ⟨⟨j + 1, by omega, by go_num⟩, by simp [intOf]; omega⟩
        · clear hcells
          go_wp2
          go_end0
          exact ⟨rfl, Hw1.out.symm⟩

/-- Behind a put: the Writer holds ys and the fault f; beside its own two blocks nothing that was there has turned. -/
def WrPost (base g : Nat) (A : Option Addr) (w : World) (ys : List UInt8) (f : Int) (w' : World) : Prop :=
  ∃ A' c', Wr w' base g A' c' ys f ∧ (∀ b, A'.map (·.block) = some b → A.map (·.block) = some b ∨ w.heap.size ≤ b) ∧ Only (wrS g A) w w'
theorem Wr.lenA {w : World} {base g : Nat} {A : Option Addr} {c : Nat} {xs : List UInt8} {f : Int} (h : Wr w base g A c xs f) : ∀ b, A.map (·.block) = some b → base ≤ b ∧ b < w.heap.size ∧ b ≠ g := by
  intro b hb
  obtain ⟨h1, h2⟩ := h.own.row b hb
  refine ⟨h1, h2, ?_⟩
  cases A with
  | none => cases hb
  | some a =>
    obtain ⟨ab, ao, asp⟩ := a
    simp only [Option.map_some, Option.some.injEq] at hb
    subst hb
    rcases h.own.2 with ⟨hv, _⟩ | ⟨g', cap, cur, hv, hg', hh, r⟩
    · injection hv with h1; cases h1
    · simp only [Value.slice.injEq, Option.some.injEq, Addr.mk.injEq] at hv
      obtain ⟨⟨rfl, rfl, rfl⟩, _⟩ := hv
      exact h.own.ne_blk h.blk (by decide) _ _ rfl

/-- One list put behind what the Writer held: the append, and the store into its field. -/
theorem put_step {base g : Nat} {A A' A2 : Option Addr} {c' c2 n m : Nat} {ys us zs : List UInt8} {w wr w2 : World} (hW : Wr wr base g A' c' ys 0) (hO : Only (wrS g A) w wr)
    (hA' : ∀ b, A'.map (·.block) = some b → A.map (·.block) = some b ∨ w.heap.size ≤ b) (hg : wr.grownBy w2 (A'.map (·.block))) (hown : Own w2 base 5 1 A2 (n + m) c2 (ys.map bv ++ us.map bv))
    (hn : ys.length = n) (hm : us.length = m) (hat : A2.map (·.block) = A'.map (·.block) ∨ A2.map (·.block) = some wr.heap.size) (hz : zs = ys ++ us) :
    Wr (w2.setCell ⟨g, 0, none⟩ (.slice A2 (n + m) c2)) base g A2 c2 zs 0 ∧ Only (wrS g A) w (w2.setCell ⟨g, 0, none⟩ (.slice A2 (n + m) c2)) ∧ ∀ b, A2.map (·.block) = some b → A.map (·.block) = some b ∨ w.heap.size ≤ b := by
  subst hz
  have hl : (ys ++ us).length = n + m := by rw [List.length_append, hn, hm]
  have hne : ∀ b, A'.map (·.block) = some b → b ≠ g := fun b hb => (hW.lenA b hb).2.2
  have hgr : some g ≠ A'.map (·.block) := fun e => hne g e.symm rfl
  have hne2 : ∀ b o, A2 = some ⟨b, o, none⟩ → b ≠ g := by
    intro b o hA
    have hb : A2.map (·.block) = some b := by rw [hA]; rfl
    rcases hat with h | h
    · exact hne b (by rw [← h]; exact hb)
    · rw [h] at hb
      have := hW.blk.lt
      injection hb with hb
      omega
  refine ⟨⟨?_, ?_⟩, ?_, ?_⟩
  · have := (hW.blk.grown hg hgr).set_ 0 (.slice A2 (n + m) c2)
    rw [hl]
    exact this
  · have h2 : OwnB w2 base A2 (ys ++ us).length c2 (ys ++ us) := OwnB.app hown hn hm
    exact Own.only (S := fun k => k = g) h2 (Only.setCell (S := fun k => k = g) (p := ⟨g, 0, none⟩) (Only.refl _ w2) (.inl rfl) _) hne2
  · exact (hO.grown hg fun k hk => (hA' k hk).imp .inr id).setCell (p := ⟨g, 0, none⟩) (.inl (.inl rfl)) _
  · intro b hb
    rcases hat with h | h
    · exact hA' b (by rw [← h]; exact hb)
    · rw [h] at hb
      have := hO.size
      injection hb with hb
      right
      omega

theorem add_ok (base g lb : Nat) (A : Option Addr) (c : Nat) (xs : List UInt8) (ps : List Part) (w : World) (hW : Wr w base g A c xs 0) (hP : PartsAt w lb ps)
    (hfit : xs.length + total ps ≤ 4194304) (hn : ps.length ≤ 1000) (hlb : ¬ wrS g A lb) (hps : ∀ k (hk : k < ps.length) b o, 0 < ps[k].ys.length → ps[k].A = some ⟨b, o, none⟩ → ¬ wrS g A b) (hbase : base ≤ w.heap.size) :
    Calls Try.prog 55 #[.pointer (some ⟨g, 0, none⟩), .slice (some ⟨lb, 0, none⟩) ps.length ps.length] w fun e w' => e = .returned (.tuple #[]) ∧ WrPost base g A w (xs ++ cat ps) 0 w' := by
  have hc0 := hW.c0
  have hc1 := hW.c1
  have hgl := hW.blk.lt
  go_enter Try.func55, Try.ntmps55
  go_wp2
  go_loop [4, 16] (fun n i => ∃ k : Nat, k ≤ ps.length ∧ i = .int .i64 k ∧ n = .int .i64 ((xs.length + total (ps.take k) : Nat) : Int)) (fun _ i => ps.length - (intOf i).toNat)
  case atStart => exact ⟨0, Nat.zero_le _, rfl, by simp [total]⟩
  case round =>
    obtain ⟨k, hk, rfl, rfl⟩ := hrel
    have htl := total_le ps k
    by_cases hlt : k < ps.length
    · have hck := hP.cell k hlt
      have hts := Lib.hid (total_take ps k hlt)
      have htl2 := total_le ps (k + 1)
      rw [hts.out] at htl2
      go_wp2
      exact ⟨⟨k + 1, by omega, by go_num, by rw [hts.out]; go_num⟩, by simp [intOf]; omega⟩
    · obtain rfl : k = ps.length := by omega
      have htk : total (ps.take ps.length) = total ps := by rw [List.take_length]
      rw [htk]
      clear htk htl
      have hfit' : ¬ (4194304 : Int) < ((xs.length + total ps : Nat) : Int) := by omega
      go_wp2
      clear hc0 hc1
      go_loopw [39] (fun i wr => ∃ (k : Nat) (A' : Option Addr) (c' : Nat) (ys : List UInt8), k ≤ ps.length ∧ i = .int .i64 k ∧ Hid (ys = xs ++ cat (ps.take k)) ∧ Wr wr base g A' c' ys 0 ∧ Hid (∀ b, A'.map (·.block) = some b → A.map (·.block) = some b ∨ w.heap.size ≤ b) ∧ Only (wrS g A) w wr) (fun i _ => ps.length - (intOf i).toNat)
      case atStart => exact ⟨0, A, c, xs, Nat.zero_le _, rfl, by simp [Hid, cat], hW, fun b hb => .inl hb, Only.refl _ _⟩
      case round =>
        obtain ⟨j, A', c', ys, hj, rfl, hys, hWj, hA', hO⟩ := hrel
        by_cases hltj : j < ps.length
        · have hPj := hP.only hO hlb hps
          have hck := hPj.cell j hltj
          have hrvj := hPj.rv j hltj
          have hnilj := Lib.hid (hPj.nil j hltj)
          have hc0 := hWj.c0
          have hc1 := hWj.c1
          have hf0 := hWj.blk.frozen 0
          have hgl := hWj.blk.lt
          have htl2 := total_le ps (j + 1)
          have hts := total_take ps j hltj
          have hlen : ys.length + ps[j].ys.length ≤ 4194304 := by
            rw [hys.out, List.length_append, length_cat]; omega
          clear hts htl2
          have Hown := hWj.own
          go_wp2_with (at_builtin; refine wpList_app rfl (.tmp 52) (.tmp 53) eByte rfl (base := base) (n := ys.length) (c := c') (A := A') (vs := ys.map bv) rfl Hown (A' := ps[j].A) (m := ps[j].ys.length) (c' := ps[j].c) (us := ps[j].ys.map bv) rfl hrvj (by simp) (map_bv_one _) (by unfold maxLen; omega) (by omega) (Nat.le_trans hbase hO.size) hnilj.out ?_; intro A2 c2 w2 hown2 hg2 hat2; have hb2 := hWj.blk.grown hg2 (fun e => (hWj.lenA g e.symm).2.2 rfl); have hf2 := hb2.frozen 0; have hc2 : w2.cell? ⟨g, 0, none⟩ = some (.slice A' ys.length c') := by rw [hb2.cell]; rfl)
          have hzz : xs ++ cat (ps.take (j + 1)) = ys ++ ps[j].ys := by rw [cat_take ps j hltj, ← List.append_assoc, ← hys.out]
          obtain ⟨hw3, ho3, ha3⟩ := put_step hWj hO hA'.out hg2 hown2 rfl rfl hat2 hzz
          exact ⟨⟨j + 1, A2, c2, _, by omega, by go_num, rfl, hw3, ha3, ho3⟩, by simp [intOf]; omega⟩
        · go_wp2
          go_end0
          obtain rfl : j = ps.length := by omega
          have e := hys.out
          rw [List.take_length] at e
          subst e
          exact ⟨rfl, A', c', hWj, hA'.out, hO⟩

/-- What a Writer holds behind more bytes. -/
def putL (xs : List UInt8) (f : Int) (ys : List UInt8) : List UInt8 × Int :=
  if f = 0 then (if xs.length + ys.length ≤ 4194304 then (xs ++ ys, 0) else (xs, 2)) else (xs, f)
theorem putL_le (xs : List UInt8) (f : Int) (ys : List UInt8) (h : xs.length ≤ 4194304) : (putL xs f ys).1.length ≤ 4194304 := by
  unfold putL
  split
  · split
    · rw [List.length_append]; assumption
    · exact h
  · exact h

theorem add_any (base g lb : Nat) (A : Option Addr) (c : Nat) (xs : List UInt8) (f : Int) (ps : List Part) (w : World) (hW : Wr w base g A c xs f) (hP : PartsAt w lb ps)
    (hx : xs.length ≤ 4194304) (ht : total ps ≤ 1000000000000000) (hn : ps.length ≤ 1000) (hlb : ¬ wrS g A lb) (hps : ∀ k (hk : k < ps.length) b o, 0 < ps[k].ys.length → ps[k].A = some ⟨b, o, none⟩ → ¬ wrS g A b) (hbase : base ≤ w.heap.size) :
    Calls Try.prog 55 #[.pointer (some ⟨g, 0, none⟩), .slice (some ⟨lb, 0, none⟩) ps.length ps.length] w fun e w' => e = .returned (.tuple #[]) ∧ WrPost base g A w (putL xs f (cat ps)).1 (putL xs f (cat ps)).2 w' := by
  by_cases hf : f = 0
  · subst hf
    by_cases hfit : xs.length + total ps ≤ 4194304
    · have e : putL xs 0 (cat ps) = (xs ++ cat ps, 0) := by unfold putL; rw [if_pos rfl, length_cat, if_pos hfit]
      rw [e]
      exact add_ok base g lb A c xs ps w hW hP hfit hn hlb hps hbase
    · have e : putL xs 0 (cat ps) = (xs, 2) := by unfold putL; rw [if_pos rfl, length_cat, if_neg hfit]
      rw [e]
      refine (add_over base g lb A c xs ps w hW hP hx (by omega) ht hn (fun h => hlb (.inl h))).mono ?_
      rintro e w' ⟨he, rfl⟩
      refine ⟨he, A, c, ⟨hW.blk.set_ 1 _, Own.only (S := fun k => k = g) hW.own (Only.setCell (S := fun k => k = g) (p := ⟨g, 1, none⟩) (Only.refl _ w) (.inl rfl) _) ?_⟩, fun b hb => .inl hb, Only.setCell (p := ⟨g, 1, none⟩) (Only.refl _ w) (.inl (.inl rfl)) _⟩
      intro b o hA
      exact (hW.lenA b (by rw [hA]; rfl)).2.2
  · have e : putL xs f (cat ps) = (xs, f) := by unfold putL; rw [if_neg hf]
    rw [e]
    refine (add_bad base g lb A c xs f ps w hW hP hf hx ht hn).mono ?_
    rintro e w' ⟨he, rfl⟩
    exact ⟨he, A, c, hW, fun b hb => .inl hb, Only.refl _ _⟩
end

section
/- Contracts of mint's Writer: Num, Int, Bool, Bytes, Text, Raw, Done; bytes.Clone. -/
open Go.RowKit

/-- A slice of bytes: where, how much room, what it reads as. -/
structure Sl (w : World) (p : Part) : Prop where
  rv : RV w p.A (p.ys.map bv)
  nil : p.A = none → p.ys.length = 0 ∧ p.c = 0
abbrev Part.val (p : Part) : Value := .slice p.A p.ys.length p.c
theorem Sl.below {w w' : World} {p : Part} (h : Sl w p) (hb : Below w.heap.size w w') : Sl w' p := ⟨h.rv.below hb, h.nil⟩
theorem Sl.drewN {w : World} {p : Part} (h : Sl w p) (n : Nat) : Sl (w.drewN n) p := h.below (below_drewN (Below.refl _ _) n)
theorem Sl.only {S : Nat → Prop} {w w' : World} {p : Part} (h : Sl w p) (ho : Only S w w') (hn : ∀ b o, 0 < p.ys.length → p.A = some ⟨b, o, none⟩ → ¬ S b) : Sl w' p :=
  ⟨h.rv.only ho fun h0 b o hA => hn b o (List.length_pos_iff.2 fun e => h0 (by rw [e]; rfl)) hA, h.nil⟩
theorem Sl.of_own {w : World} {base n c : Nat} {A : Option Addr} {ys : List UInt8} (h : OwnB w base A n c ys) : Sl w ⟨A, c, ys⟩ := by
  refine ⟨RV.of_own h, fun hA => ?_⟩
  subst hA
  rcases h.2 with ⟨hv, h0⟩ | ⟨g, cap, cur, hv, _⟩
  · injection hv with _ h1 h2
    exact ⟨by have := h.len; show ys.length = 0; omega, h2⟩
  · cases hv
theorem PartsAt.one {w : World} {p : Part} {t : TypeId} (h : Sl w p) : PartsAt (w.alloc (.cells #[.slice p.A p.ys.length p.c] t)) w.heap.size [p] := by
  refine ⟨by simp, fun k hk => ?_, fun k hk => ?_, fun k hk => ?_⟩
  all_goals obtain rfl : k = 0 := by simpa using hk
  · exact (Blk.new w t #[.slice p.A p.ys.length p.c]).cell 0
  · exact h.rv.alloc _
  · exact h.nil
theorem PartsAt.two {w : World} {p q : Part} {t : TypeId} (h : Sl w p) (h' : Sl w q) : PartsAt (w.alloc (.cells #[.slice p.A p.ys.length p.c, .slice q.A q.ys.length q.c] t)) w.heap.size [p, q] := by
  refine ⟨by simp, fun k hk => ?_, fun k hk => ?_, fun k hk => ?_⟩
  all_goals rcases (show k = 0 ∨ k = 1 by simp at hk; omega) with rfl | rfl
  · exact (Blk.new w t #[.slice p.A p.ys.length p.c, .slice q.A q.ys.length q.c]).cell 0
  · exact (Blk.new w t #[.slice p.A p.ys.length p.c, .slice q.A q.ys.length q.c]).cell 1
  · exact h.rv.alloc _
  · exact h'.rv.alloc _
  · exact h.nil
  · exact h'.nil

theorem Wr.below {w w' : World} {base g : Nat} {A : Option Addr} {c : Nat} {xs : List UInt8} {f : Int} (h : Wr w base g A c xs f) (hb : Below w.heap.size w w') : Wr w' base g A c xs f :=
  ⟨h.blk.below hb h.blk.lt, Own.below h.own hb (Nat.le_refl _)⟩
theorem Wr.far {w : World} {base g : Nat} {A : Option Addr} {c : Nat} {xs : List UInt8} {f : Int} (h : Wr w base g A c xs f) {b : Nat} (hb : w.heap.size ≤ b) : ¬ wrS g A b := by
  rintro (h1 | h1)
  · have := h.blk.lt; omega
  · have := (h.lenA b h1).2.1; omega
theorem WrPost.of_below {w w2 w' : World} {base g : Nat} {A : Option Addr} {ys : List UInt8} {f : Int} (hb : Below w.heap.size w w2) (h : WrPost base g A w2 ys f w') : WrPost base g A w ys f w' := by
  obtain ⟨A', c', h1, h2, h3⟩ := h
  exact ⟨A', c', h1, fun b hb' => (h2 b hb').imp id fun h => Nat.le_trans hb.size h, (Only.of_fresh hb).trans h3⟩

theorem add_fresh (base g lb : Nat) (A : Option Addr) (c : Nat) (xs : List UInt8) (f : Int) (ps : List Part) (w w2 : World) (hW : Wr w base g A c xs f) (hb : Below w.heap.size w w2) (hP : PartsAt w2 lb ps)
    (hx : xs.length ≤ 4194304) (ht : total ps ≤ 1000000000000000) (hn : ps.length ≤ 1000) (hlb : w.heap.size ≤ lb) (hps : ∀ k (hk : k < ps.length) b o, 0 < ps[k].ys.length → ps[k].A = some ⟨b, o, none⟩ → w.heap.size ≤ b ∨ ¬ wrS g A b) (hbase : base ≤ w.heap.size) :
    Calls Try.prog 55 #[.pointer (some ⟨g, 0, none⟩), .slice (some ⟨lb, 0, none⟩) ps.length ps.length] w2 fun e w' => e = .returned (.tuple #[]) ∧ WrPost base g A w (putL xs f (cat ps)).1 (putL xs f (cat ps)).2 w' :=
  (add_any base g lb A c xs f ps w2 (hW.below hb) hP hx ht hn (hW.far hlb) (fun k hk b o h0 hA => (hps k hk b o h0 hA).elim (fun h => hW.far h) id) (Nat.le_trans hbase hb.size)).mono
    fun _ _ ⟨he, hp⟩ => ⟨he, hp.of_below hb⟩

theorem raw_any (base g : Nat) (A : Option Addr) (c : Nat) (xs : List UInt8) (f : Int) (p : Part) (w : World) (hW : Wr w base g A c xs f) (hp : Sl w p)
    (hx : xs.length ≤ 4194304) (ht : p.ys.length ≤ 200000000000000) (hps : ∀ b o, 0 < p.ys.length → p.A = some ⟨b, o, none⟩ → ¬ wrS g A b) (hbase : base ≤ w.heap.size) :
    Calls Try.prog 21 #[.pointer (some ⟨g, 0, none⟩), .slice p.A p.ys.length p.c] w fun e w' => e = .returned (.tuple #[]) ∧ WrPost base g A w (putL xs f p.ys).1 (putL xs f p.ys).2 w' := by
  have hcat : cat [p] = p.ys := by simp [cat]
  have Hcat := Lib.hid hcat
  clear hcat
  go_enter Try.func21, Try.ntmps21
  go_wp2_with fail
  refine (add_fresh base g w.heap.size A c xs f [p] w _ hW ((Below.refl _ _).alloc (Nat.le_refl _) _) (PartsAt.one hp) hx (by simp [total]; omega) (by simp) (Nat.le_refl _) (fun k hk b o h0 hA => ?_) hbase).mono ?_
  · obtain rfl : k = 0 := by simpa using hk
    exact .inr (hps b o h0 hA)
  · rintro e w' ⟨rfl, hpost⟩
    rw [Hcat.out] at hpost
    go_wp2_with fail
    go_end0
    exact ⟨rfl, hpost⟩

/-- What a Writer holds behind Num. -/
def numL (xs : List UInt8) (f n : Int) : List UInt8 × Int := if n < 0 then (xs, if f = 0 then 1 else f) else putL xs f (formL n.toNat)

theorem num_neg (base g : Nat) (A : Option Addr) (c : Nat) (xs : List UInt8) (f n : Int) (w : World) (hW : Wr w base g A c xs f) (hn : n < 0) :
    Calls Try.prog 23 #[.pointer (some ⟨g, 0, none⟩), .int .i64 n] w fun e w' => e = .returned (.tuple #[]) ∧ WrPost base g A w (numL xs f n).1 (numL xs f n).2 w' := by
  have hc1 := hW.c1
  have hf1 := hW.blk.frozen 1
  have hgl := hW.blk.lt
  by_cases hf : f = 0
  · subst hf
    have e : numL xs 0 n = (xs, 1) := by unfold numL; rw [if_pos hn, if_pos rfl]
    rw [e]
    clear e
    go_enter Try.func23, Try.ntmps23
    go_wp2_with fail
    refine bodyPost_ret (results_none rfl _ _ _) rfl ⟨rfl, A, c, ⟨hW.blk.set_ 1 _, Own.only (S := fun k => k = g) hW.own (Only.setCell (S := fun k => k = g) (p := ⟨g, 1, none⟩) (Only.refl _ w) (.inl rfl) _) ?_⟩, fun b hb => .inl hb, Only.setCell (p := ⟨g, 1, none⟩) (Only.refl _ w) (.inl (.inl rfl)) _⟩
    intro b o hA
    exact (hW.lenA b (by rw [hA]; rfl)).2.2
  · have hfb : (f == 0) = false := by rw [beq_eq_false_iff_ne]; exact hf
    have e : numL xs f n = (xs, f) := by unfold numL; rw [if_pos hn, if_neg hf]
    rw [e]
    clear hf e
    go_enter Try.func23, Try.ntmps23
    go_wp2_with fail
    exact bodyPost_ret (results_none rfl _ _ _) rfl ⟨rfl, A, c, hW, fun b hb => .inl hb, Only.refl _ _⟩

theorem num_pos (base g : Nat) (A : Option Addr) (c : Nat) (xs : List UInt8) (f : Int) (n : Nat) (w : World) (hW : Wr w base g A c xs f) (hn : n < 9223372036854775808) (hx : xs.length ≤ 4194304) (hbase : base ≤ w.heap.size) :
    Calls Try.prog 23 #[.pointer (some ⟨g, 0, none⟩), .int .i64 n] w fun e w' => e = .returned (.tuple #[]) ∧ WrPost base g A w (numL xs f n).1 (numL xs f n).2 w' := by
  have e : numL xs f n = putL xs f (cat [⟨none, 0, formL n⟩]) := by unfold numL; rw [if_neg (by omega)]; simp [cat]
  rw [e]
  clear e
  have hlt : n ≤ 9223372036854775807 := by omega
  clear hn
  go_enter Try.func23, Try.ntmps23
  go_wp2_with fail
  refine (form_any n w (by omega)).mono ?_
  rintro e w1 ⟨A1, c1, rfl, hown1, hb1⟩
  go_wp2_with fail
  refine (add_fresh base g w1.heap.size A c xs f [⟨A1, c1, formL n⟩] w _ hW (hb1.alloc hb1.size _) (PartsAt.one (Sl.of_own hown1)) hx (by have := formL_le n; simp [total]; omega) (by simp) hb1.size (fun k hk b o h0 hA => ?_) hbase).mono ?_
  · obtain rfl : k = 0 := by simpa using hk
    exact .inl (hown1.lt b o hA).1
  · rintro e w' ⟨rfl, hpost⟩
    go_wp2_with fail
    go_end0
    exact ⟨rfl, hpost⟩

theorem num_any (base g : Nat) (A : Option Addr) (c : Nat) (xs : List UInt8) (f n : Int) (w : World) (hW : Wr w base g A c xs f) (hn : n < 9223372036854775808) (hx : xs.length ≤ 4194304) (hbase : base ≤ w.heap.size) :
    Calls Try.prog 23 #[.pointer (some ⟨g, 0, none⟩), .int .i64 n] w fun e w' => e = .returned (.tuple #[]) ∧ WrPost base g A w (numL xs f n).1 (numL xs f n).2 w' := by
  by_cases h : n < 0
  · exact num_neg base g A c xs f n w hW h
  · obtain ⟨m, rfl⟩ := Int.eq_ofNat_of_zero_le (by omega : 0 ≤ n)
    exact num_pos base g A c xs f m w hW (by omega) hx hbase

theorem int_any (base g : Nat) (A : Option Addr) (c : Nat) (xs : List UInt8) (f n : Int) (w : World) (hW : Wr w base g A c xs f) (hn0 : -9223372036854775808 ≤ n) (hn : n < 9223372036854775808) (hx : xs.length ≤ 4194304) (hbase : base ≤ w.heap.size) :
    Calls Try.prog 26 #[.pointer (some ⟨g, 0, none⟩), .int .i64 n] w fun e w' => e = .returned (.tuple #[]) ∧ WrPost base g A w (putL xs f (formL (foldN n))).1 (putL xs f (formL (foldN n))).2 w' := by
  have e : formL (foldN n) = cat [⟨none, 0, formL (foldN n)⟩] := by simp [cat]
  rw [e]
  clear e
  have hfb := Lib.hid (fold_bits n hn0 hn)
  have hfl := Lib.hid (foldN_lt n hn0 hn)
  clear hn0 hn
  go_enter Try.func26, Try.ntmps26
  go_wp2_with fail
  rw [hfb.out]
  refine (form_any (foldN n) w hfl.out).mono ?_
  rintro e w1 ⟨A1, c1, rfl, hown1, hb1⟩
  go_wp2_with fail
  refine (add_fresh base g w1.heap.size A c xs f [⟨A1, c1, formL (foldN n)⟩] w _ hW (hb1.alloc hb1.size _) (PartsAt.one (Sl.of_own hown1)) hx (by have := formL_le (foldN n); simp [total]; omega) (by simp) hb1.size (fun k hk b o h0 hA => ?_) hbase).mono ?_
  · obtain rfl : k = 0 := by simpa using hk
    exact .inl (hown1.lt b o hA).1
  · rintro e w' ⟨rfl, hpost⟩
    go_wp2_with fail
    go_end0
    exact ⟨rfl, hpost⟩

/-- A bool's form. -/
def boolL (x : Bool) : List UInt8 := [if x then 1 else 0]
theorem bool_any (base g : Nat) (A : Option Addr) (c : Nat) (xs : List UInt8) (f : Int) (x : Bool) (w : World) (hW : Wr w base g A c xs f) (hx : xs.length ≤ 4194304) (hbase : base ≤ w.heap.size) :
    Calls Try.prog 24 #[.pointer (some ⟨g, 0, none⟩), .bool x] w fun e w' => e = .returned (.tuple #[]) ∧ WrPost base g A w (putL xs f (boolL x)).1 (putL xs f (boolL x)).2 w' := by
  have hS : ∀ u : UInt8, Sl (w.alloc (.cells #[bv u] 5)) ⟨some ⟨w.heap.size, 0, none⟩, 1, [u]⟩ := fun u => ⟨RV.of_blk (Blk.new w _ #[bv u]), fun h => by cases h⟩
  have hbw : ∀ o1 o2 : Obj, Below w.heap.size w ((w.alloc o1).alloc o2) := fun o1 o2 => ((Below.refl _ _).alloc (Nat.le_refl _) _).alloc (by simp) _
  have HS := Lib.hid hS
  have Hbw := Lib.hid hbw
  clear hS hbw
  cases x
  · have e : boolL false = cat [⟨some ⟨w.heap.size, 0, none⟩, 1, [0]⟩] := rfl
    rw [e]
    clear e
    go_enter Try.func24, Try.ntmps24
    go_wp2_with fail
    refine (add_fresh base g (w.heap.size + 1) A c xs f [⟨some ⟨w.heap.size, 0, none⟩, 1, [0]⟩] w _ hW (Hbw.out _ _) (by have h := PartsAt.one (t := 22) (HS.out 0); rw [World.size_alloc] at h; exact h) hx (by simp [total]) (by simp) (by omega) (fun k hk b o h0 hA => ?_) hbase).mono ?_
    · obtain rfl : k = 0 := by simpa using hk
      left
      simp at hA
      omega
    · rintro e w' ⟨rfl, hpost⟩
      go_wp2_with fail
      exact bodyPost_end (results_none rfl _ _ _) rfl ⟨rfl, hpost⟩
  · have e : boolL true = cat [⟨some ⟨w.heap.size, 0, none⟩, 1, [1]⟩] := rfl
    rw [e]
    clear e
    go_enter Try.func24, Try.ntmps24
    go_wp2_with fail
    refine (add_fresh base g (w.heap.size + 1) A c xs f [⟨some ⟨w.heap.size, 0, none⟩, 1, [1]⟩] w _ hW (Hbw.out _ _) (by have h := PartsAt.one (t := 22) (HS.out 1); rw [World.size_alloc] at h; exact h) hx (by simp [total]) (by simp) (by omega) (fun k hk b o h0 hA => ?_) hbase).mono ?_
    · obtain rfl : k = 0 := by simpa using hk
      left
      simp at hA
      omega
    · rintro e w' ⟨rfl, hpost⟩
      go_wp2_with fail
      exact bodyPost_end (results_none rfl _ _ _) rfl ⟨rfl, hpost⟩

theorem bytes_any (base g : Nat) (A : Option Addr) (c : Nat) (xs : List UInt8) (f : Int) (p : Part) (w : World) (hW : Wr w base g A c xs f) (hp : Sl w p)
    (hx : xs.length ≤ 4194304) (ht : p.ys.length ≤ 200000000000000) (hps : ∀ b o, 0 < p.ys.length → p.A = some ⟨b, o, none⟩ → ¬ wrS g A b) (hbase : base ≤ w.heap.size) :
    Calls Try.prog 27 #[.pointer (some ⟨g, 0, none⟩), .slice p.A p.ys.length p.c] w fun e w' => e = .returned (.tuple #[]) ∧ WrPost base g A w (putL xs f (formL p.ys.length ++ p.ys)).1 (putL xs f (formL p.ys.length ++ p.ys)).2 w' := by
  have e : formL p.ys.length ++ p.ys = cat [⟨none, 0, formL p.ys.length⟩, p] := by simp [cat]
  rw [e]
  clear e
  go_enter Try.func27, Try.ntmps27
  go_wp2_with fail
  refine (form_any p.ys.length w (by omega)).mono ?_
  rintro e w1 ⟨A1, c1, rfl, hown1, hb1⟩
  go_wp2_with fail
  refine (add_fresh base g w1.heap.size A c xs f [⟨A1, c1, formL p.ys.length⟩, p] w _ hW (hb1.alloc hb1.size _) (PartsAt.two (Sl.of_own hown1) (hp.below hb1)) hx (by have := formL_le p.ys.length; simp [total]; omega) (by simp) hb1.size (fun k hk b o h0 hA => ?_) hbase).mono ?_
  · rcases (show k = 0 ∨ k = 1 by simp at hk; omega) with rfl | rfl
    · exact .inl (hown1.lt b o hA).1
    · exact .inr (hps b o h0 hA)
  · rintro e w' ⟨rfl, hpost⟩
    go_wp2_with fail
    go_end0
    exact ⟨rfl, hpost⟩

theorem text_any (base g : Nat) (A : Option Addr) (c : Nat) (xs : List UInt8) (f : Int) (s : ByteArray) (w : World) (hW : Wr w base g A c xs f)
    (hx : xs.length ≤ 4194304) (ht : s.size ≤ 200000000000000) (hbase : base ≤ w.heap.size) :
    Calls Try.prog 25 #[.pointer (some ⟨g, 0, none⟩), .string s] w fun e w' => e = .returned (.tuple #[]) ∧ WrPost base g A w (putL xs f (formL s.size ++ s.data.toList)).1 (putL xs f (formL s.size ++ s.data.toList)).2 w' := by
  have hsz : s.size = s.data.toList.length := by rw [Array.length_toList]; rfl
  have Hsz := Lib.hid hsz
  clear hsz
  go_enter Try.func25, Try.ntmps25
  go_wp2_with (refine wpList_strBytes rfl (.tmp 5) s rfl rfl Try.underlying9 Try.underlying22 Try.underlying5 ?_; intro c1 w1 hrv1 hb1 hz1)
  have hs1 : Sl w1 ⟨some ⟨w.heap.size, 0, none⟩, c1, s.data.toList⟩ := ⟨hrv1, fun h => by cases h⟩
  have key := bytes_any base g A c xs f ⟨some ⟨w.heap.size, 0, none⟩, c1, s.data.toList⟩ w1 (hW.below hb1) hs1 hx (by show s.data.toList.length ≤ _; rw [← Hsz.out]; exact ht) (fun b o _ hA => by
    simp only [Option.some.injEq, Addr.mk.injEq] at hA
    obtain ⟨rfl, _⟩ := hA
    exact hW.far (Nat.le_refl _)) (Nat.le_trans hbase hb1.size)
  dsimp only at key
  rw [← Hsz.out] at key
  refine key.mono ?_
  rintro e w' ⟨rfl, hpost⟩
  go_wp2_with fail
  go_end0
  exact ⟨rfl, hpost.of_below hb1⟩
end

section
/- Contracts of bytes.Clone and of mint's (*Writer).Done. -/
open Go.RowKit

/-- The call handed back a new slice of bytes that reads as ys. -/
def FreshB (w : World) (ys : List UInt8) (e : Ending) (w' : World) : Prop :=
  ∃ A c, e = .returned (.slice A ys.length c) ∧ OwnB w' w.heap.size A ys.length c ys ∧ Below w.heap.size w w'

theorem clone_any (p : Part) (w : World) (hp : Sl w p) (hl : p.ys.length ≤ 140737488355328) :
    Calls Try.prog 56 #[.slice p.A p.ys.length p.c] w (FreshB w p.ys) := by
  have qT : ∀ (w : World) (a : Option Addr) (n c n' c' : Nat), (binOp .eql 22 (.slice a n c) (.slice none n' c')).run Try.prog w = .ok (.bool a.isNone) w := fun w a n c n' c' => Lib.run_eql_slice_nil w _ _ a n c n' c' Try.underlying22
  obtain ⟨A, c, ys⟩ := p
  have hrv : RV w A (ys.map bv) := hp.rv
  have hnil : A = none → ys.length = 0 ∧ c = 0 := hp.nil
  change ys.length ≤ _ at hl
  cases A with
  | none =>
    obtain ⟨h0, rfl⟩ := hnil rfl
    obtain rfl : ys = [] := List.eq_nil_of_length_eq_zero h0
    go_enter Try.func56, Try.ntmps56
    go_wp2
    go_ret
    exact ⟨none, 0, rfl, Own.nil _ _ _ _, Below.refl _ _⟩
  | some a =>
    clear hnil
    have hown0 : OwnB (w.alloc (.cells #[] 5)) w.heap.size (some ⟨w.heap.size, 0, none⟩) 0 0 [] := Own.lit w _ 1 0 #[] (Nat.le_refl _) (by decide) rfl
    have hrv0 := hrv.alloc (.cells #[] 5)
    go_enter Try.func56, Try.ntmps56
    go_wp2_with (at_builtin; refine wpList_app rfl (.tmp 5) (.tmp 6) eByte rfl (base := w.heap.size) (n := 0) (c := 0) (A := some ⟨w.heap.size, 0, none⟩) (vs := []) rfl hown0 (A' := some a) (m := ys.length) (c' := c) (us := ys.map bv) rfl hrv0 (by simp) (map_bv_one _) (by unfold maxLen; omega) (by omega) (by simp) (by simp) ?_; intro A2 c2 w2 hown2 hg2 hat2)
    go_ret
    simp only [Nat.zero_add, List.nil_append] at hown2
    refine ⟨A2, c2, rfl, hown2, ((Below.refl _ _).alloc (Nat.le_refl _) _).grown hg2 (by simp) fun k hk => ?_⟩
    simp at hk
    omega

/-- What Done tells of a Writer that holds xs and the fault f. -/
def doneL (xs : List UInt8) (f : Int) : List UInt8 := if f = 0 then xs else []
def DonePost (w : World) (xs : List UInt8) (f : Int) (e : Ending) (w' : World) : Prop :=
  ∃ A c, e = .returned (.tuple #[.slice A (doneL xs f).length c, .int .i64 f]) ∧ OwnB w' w.heap.size A (doneL xs f).length c (doneL xs f) ∧ Below w.heap.size w w'

theorem done_any (base g : Nat) (A : Option Addr) (c : Nat) (xs : List UInt8) (f : Int) (w : World) (hW : Wr w base g A c xs f) (hx : xs.length ≤ 4194304) :
    Calls Try.prog 22 #[.pointer (some ⟨g, 0, none⟩)] w (DonePost w xs f) := by
  have hc0 := hW.c0
  have hc1 := hW.c1
  have hgl := hW.blk.lt
  by_cases hf : f = 0
  · subst hf
    have hs : Sl w ⟨A, c, xs⟩ := Sl.of_own hW.own
    go_enter Try.func22, Try.ntmps22
    go_wp2_with fail
    refine (clone_any ⟨A, c, xs⟩ w hs (by show xs.length ≤ _; omega)).mono ?_
    rintro e w1 ⟨A1, c1, rfl, hown1, hb1⟩
    go_wp2_with fail
    go_ret2
    exact ⟨A1, c1, rfl, hown1, hb1⟩
  · have hfb : (f != 0) = true := by rw [bne_iff_ne]; exact hf
    have hd : doneL xs f = [] := by unfold doneL; rw [if_neg hf]
    have Hd := Lib.hid hd
    clear hf hd
    go_enter Try.func22, Try.ntmps22
    go_wp2_with fail
    go_quiet (fail)
    go_wp2_with fail
    go_ret2
    unfold DonePost
    rw [Hd.out]
    exact ⟨none, 0, rfl, Own.nil _ _ _ _, below_drewN (Below.refl _ _) _⟩
end
end Go.Proofs.Ytefaapcekbgjoaa
