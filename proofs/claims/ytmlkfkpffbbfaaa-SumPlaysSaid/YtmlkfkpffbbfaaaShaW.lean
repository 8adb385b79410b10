/- Words of 32 bits: what the walk's own terms are. -/
import Derived.Deep.QuietTactic
import Derived.BigQuiet
import Derived.StillTailTactics
import Derived.Deep.MidRow
import Derived.Test.YtmlkfkpffbbfaaaBaseB
import Derived.Test.YtmlkfkpffbbfaaaFacts
namespace Go.Proofs.Ytmlkfkpffbbfaaa
open Go.RowKit

def wv (x : UInt32) : Value := .int .u32 (x.toNat : Int)
theorem w32_lt (x : UInt32) : x.toNat < 4294967296 := x.toNat_lt
theorem bits32 (op : BinOp) (a b : UInt32) (f : UInt32 → UInt32 → UInt32) (h : (BitVec.ofNat 32 (f a b).toNat).toNat = (f a b).toNat)
    (g : bits op .u32 a.toNat b.toNat = IntKind.u32.wrap ((f a b).toNat : Int)) : bits op .u32 a.toNat b.toNat = ((f a b).toNat : Int) := by
  rw [g, IntKind.wrap_u32]
  have := w32_lt (f a b)
  omega
theorem ofInt_u32 (a : UInt32) : BitVec.ofInt 32 (a.toNat : Int) = a.toBitVec := by
  rw [BitVec.ofInt_natCast]
  simp
theorem bits_xor32 (a b : UInt32) : bits .xor .u32 a.toNat b.toNat = ((a ^^^ b).toNat : Int) := by
  have h : bits .xor .u32 a.toNat b.toNat = IntKind.u32.wrap (((BitVec.ofInt 32 (a.toNat : Int)) ^^^ (BitVec.ofInt 32 (b.toNat : Int))).toNat : Int) := rfl
  rw [h, ofInt_u32, ofInt_u32, IntKind.wrap_u32]
  have e : (a.toBitVec ^^^ b.toBitVec).toNat = (a ^^^ b).toNat := rfl
  rw [e]
  have := w32_lt (a ^^^ b)
  omega
theorem bits_and32 (a b : UInt32) : bits .and .u32 a.toNat b.toNat = ((a &&& b).toNat : Int) := by
  have h : bits .and .u32 a.toNat b.toNat = IntKind.u32.wrap (((BitVec.ofInt 32 (a.toNat : Int)) &&& (BitVec.ofInt 32 (b.toNat : Int))).toNat : Int) := rfl
  rw [h, ofInt_u32, ofInt_u32, IntKind.wrap_u32]
  have e : (a.toBitVec &&& b.toBitVec).toNat = (a &&& b).toNat := rfl
  rw [e]
  have := w32_lt (a &&& b)
  omega
theorem bits_or32 (a b : UInt32) : bits .or .u32 a.toNat b.toNat = ((a ||| b).toNat : Int) := by
  have h : bits .or .u32 a.toNat b.toNat = IntKind.u32.wrap (((BitVec.ofInt 32 (a.toNat : Int)) ||| (BitVec.ofInt 32 (b.toNat : Int))).toNat : Int) := rfl
  rw [h, ofInt_u32, ofInt_u32, IntKind.wrap_u32]
  have e : (a.toBitVec ||| b.toBitVec).toNat = (a ||| b).toNat := rfl
  rw [e]
  have := w32_lt (a ||| b)
  omega
theorem add32 (a b : UInt32) : ((a.toNat : Int) + (b.toNat : Int)) % 4294967296 = ((a + b).toNat : Int) := by
  rw [UInt32.toNat_add]
  omega

/-- A word turned to the right. -/
def rotr (x : UInt32) (n : Nat) : UInt32 := UInt32.ofNat (x.toNat / 2 ^ n) ||| UInt32.ofNat (x.toNat * 2 ^ (32 - n))

theorem shr32 (x : UInt32) (n : Nat) : (x.toNat : Int) / 2 ^ n = ((UInt32.ofNat (x.toNat / 2 ^ n)).toNat : Int) := by
  have h := w32_lt x
  have h2 : x.toNat / 2 ^ n ≤ x.toNat := Nat.div_le_self _ _
  rw [UInt32.toNat_ofNat_of_lt' (by show _ < 4294967296; omega)]
  simp
theorem shl32 (x : UInt32) (n : Nat) : (x.toNat : Int) * 2 ^ n % 4294967296 = ((UInt32.ofNat (x.toNat * 2 ^ n)).toNat : Int) := by
  rw [UInt32.toNat_ofNat']
  simp
theorem or_comm32 (a b : UInt32) : a ||| b = b ||| a := UInt32.or_comm a b

theorem turned_any (x : UInt32) (n : Nat) (w : World) (h1 : 0 < n) (h2 : n < 32) :
    Calls Try.prog 43 #[.int .u32 x.toNat, .int .i64 n] w fun e w' => e = .returned (.int .u32 (rotr x n).toNat) ∧ ∃ m, w' = w.drewN m := by
  have g1 : (0 : Int) ≤ n := by omega
  have g2 : (0 : Int) ≤ 32 - (n : Int) := by omega
  go_enter Try.func43, Try.ntmps43
  go_wp2_with fail
  go_quiet (fail)
  go_wp2_with fail
  go_ret
  refine ⟨?_, nq, rfl⟩
  show Ending.returned (.int .u32 (bits .or .u32 (x.toNat / 2 ^ n) (x.toNat * 2 ^ (32 - n) % 4294967296))) = _
  rw [shr32, shl32, bits_or32]
  rfl

theorem and31 (n : Nat) (h1 : 0 < n) (h2 : n < 32) : bits .and .u64 (18446744073709551616 - (n : Int)) 31 = ((32 - n : Nat) : Int) := by
  have e : (18446744073709551616 - (n : Int)) = ((18446744073709551616 - n : Nat) : Int) := by omega
  rw [e, show (31 : Int) = ((31 : Nat) : Int) from rfl, bits_and_u64_nat _ _ (by omega) (by omega)]
  have e2 : (18446744073709551616 - n) &&& 31 = (18446744073709551616 - n) % 32 := Nat.and_two_pow_sub_one_eq_mod _ 5
  rw [e2]
  omega

theorem rotl_any (x : UInt32) (n : Nat) (w : World) (h1 : 0 < n) (h2 : n < 32) :
    Calls Try.prog 47 #[.int .u32 x.toNat, .int .i64 (-(n : Int))] w fun e w' => e = .returned (.int .u32 (rotr x n).toNat) ∧ w' = w := by
  obtain ⟨m, hm⟩ : ∃ m, n + m = 32 := ⟨32 - n, by omega⟩
  have g0 : bits .and .u64 (IntKind.u64.wrap (-(n : Int))) 31 = (m : Int) := by
    have h := and31 n h1 h2
    rw [IntKind.wrap_u64, show (-(n : Int)) % 18446744073709551616 = 18446744073709551616 - (n : Int) from by omega, h]
    omega
  have g1 : (0 : Int) ≤ m := by omega
  have g2 : (m : Int) ≤ 32 := by omega
  go_enter Try.func47, Try.ntmps47
  go_wp2_with fail
  go_ret
  refine ⟨?_, rfl⟩
  show Ending.returned (.int .u32 (bits .or .u32 (x.toNat * 2 ^ m % 4294967296) (x.toNat / 2 ^ (32 - m)))) = _
  rw [shr32, shl32, bits_or32, UInt32.or_comm, show 32 - m = n from by omega, show m = 32 - n from by omega]
  rfl

theorem right_any (x : UInt32) (n : Nat) (w : World) (h1 : 0 < n) (h2 : n < 32) :
    Calls Try.prog 46 #[.int .u32 x.toNat, .int .i64 n] w fun e w' => e = .returned (.int .u32 (rotr x n).toNat) ∧ w' = w := by
  go_enter Try.func46, Try.ntmps46
  go_wp2_with fail
  refine (rotl_any x n w h1 h2).mono ?_
  rintro e w1 ⟨rfl, h⟩
  rw [h]
  clear h w1
  go_wp2_with fail
  go_ret
  exact ⟨rfl, rfl⟩

/-- The words of the rounds. -/
def sumK : List UInt32 := [
  0x428a2f98, 0x71374491, 0xb5c0fbcf, 0xe9b5dba5, 0x3956c25b, 0x59f111f1, 0x923f82a4, 0xab1c5ed5,
  0xd807aa98, 0x12835b01, 0x243185be, 0x550c7dc3, 0x72be5d74, 0x80deb1fe, 0x9bdc06a7, 0xc19bf174,
  0xe49b69c1, 0xefbe4786, 0x0fc19dc6, 0x240ca1cc, 0x2de92c6f, 0x4a7484aa, 0x5cb0a9dc, 0x76f988da,
  0x983e5152, 0xa831c66d, 0xb00327c8, 0xbf597fc7, 0xc6e00bf3, 0xd5a79147, 0x06ca6351, 0x14292967,
  0x27b70a85, 0x2e1b2138, 0x4d2c6dfc, 0x53380d13, 0x650a7354, 0x766a0abb, 0x81c2c92e, 0x92722c85,
  0xa2bfe8a1, 0xa81a664b, 0xc24b8b70, 0xc76c51a3, 0xd192e819, 0xd6990624, 0xf40e3585, 0x106aa070,
  0x19a4c116, 0x1e376c08, 0x2748774c, 0x34b0bcb5, 0x391c0cb3, 0x4ed8aa4a, 0x5b9cca4f, 0x682e6ff3,
  0x748f82ee, 0x78a5636f, 0x84c87814, 0x8cc70208, 0x90befffa, 0xa4506ceb, 0xbef9a3f7, 0xc67178f2]
def sum0 : List UInt32 := [0x6a09e667, 0xbb67ae85, 0x3c6ef372, 0xa54ff53a, 0x510e527f, 0x9b05688c, 0x1f83d9ab, 0x5be0cd19]
/-- An array of words as a value. -/
def aggW (l : List UInt32) : Value := .agg (l.map wv).toArray

/-- One operation, run by an equation. -/
theorem wpList_run {P : Program} {w w' : World} {ops : Array Oper} {rest : List Oper} {o : Oper} {a : Act} {Q : Exit → Act → World → Prop} {v : Value} (hgd : o.guard = none)
    (h : (execOp a.eval o).run P w = .ok (.value v) w') (hk : wpList P ops Q rest (a.put o.dst v) w') : wpList P ops Q (o :: rest) a w :=
  wpList_plain hgd fun _ hK => wp_of_run h (hK _ _ hk)
theorem there_blk {w : World} {g : Nat} {t : TypeId} {cs : Array Value} (h : Blk w g t cs) {o n : Nat} (hn : o + n ≤ cs.size) : w.there g o n := fun j hj => by
  rw [h.cell, h.frozen, Array.getElem?_eq_getElem (by omega)]
  exact ⟨rfl, rfl⟩
theorem setCells_blk (g : Nat) (t : TypeId) : ∀ (vs : List Value) (o : Nat) (w : World) (xs ys zs : List Value), Blk w g t (xs ++ ys ++ zs).toArray → xs.length = o → ys.length = vs.length → Blk (w.setCells g o vs) g t (xs ++ vs ++ zs).toArray ∧ Only (fun k => k = g) w (w.setCells g o vs) ∧ (w.setCells g o vs).heap.size = w.heap.size := by
  intro vs
  induction vs with
  | nil =>
    intro o w xs ys zs h ho hy
    obtain rfl : ys = [] := List.length_eq_zero_iff.1 hy
    exact ⟨h, Only.refl _ _, rfl⟩
  | cons v vs ih =>
    intro o w xs ys zs h ho hy
    obtain ⟨y, ys', rfl⟩ : ∃ y ys', ys = y :: ys' := by
      cases ys with
      | nil => simp at hy
      | cons y ys' => exact ⟨y, ys', rfl⟩
    have h1 := h.setL o v
    have e1 : (xs ++ (y :: ys') ++ zs).set o v = (xs ++ [v]) ++ ys' ++ zs := by
      subst ho
      simp
    rw [e1] at h1
    have h2 := ih (o + 1) (w.setCell ⟨g, o, none⟩ v) (xs ++ [v]) ys' zs h1 (by simp [ho]) (by simpa using hy)
    have e2 : (w.setCells g o (v :: vs)) = (w.setCell ⟨g, o, none⟩ v).setCells g (o + 1) vs := rfl
    rw [e2]
    refine ⟨?_, ?_, ?_⟩
    · have := h2.1
      simpa using this
    · exact (Only.setCell (S := fun k => k = g) (p := ⟨g, o, none⟩) (Only.refl _ w) (.inl rfl) v).trans h2.2.1
    · rw [h2.2.2]; simp
/-- A whole array is stored into its block. -/
theorem wpList_storeB {P : Program} {w : World} {ops : Array Oper} {rest : List Oper} {o : Oper} {a : Act} {Q : Exit → Act → World → Prop} (hgd : o.guard = none) (ty : TypeId) (x y : Operand) (ho : o.op = .store ty x y)
    {g : Nat} {t : TypeId} {os : Array Value} (cs : List Value) (hx : a.eval x = .pointer (some ⟨g, 0, none⟩)) (hy : a.eval y = .agg cs.toArray) (hb : Blk w g t os)
    (hi : (P.info? ty).map (·.size) = some cs.length) (hos : os.size = cs.length) (h1 : ∀ v ∈ cs, v.oneCell' = true)
    (h : ∀ w', Blk w' g t cs.toArray → Only (fun k => k = g) w w' → w'.heap.size = w.heap.size → wpList P ops Q rest (a.put o.dst undef) w') : wpList P ops Q (o :: rest) a w := by
  have hb' : Blk w g t ([] ++ os.toList ++ []).toArray := by simpa using hb
  have hs := setCells_blk g t cs 0 w [] os.toList [] hb' rfl (by simpa using hos)
  simp only [List.nil_append, List.append_nil] at hs
  refine wpList_store_mid hgd ty x y ho g 0 cs.toArray hx hy (there_blk hb (by simp [hos])) (by simpa using hi) (all_oneCell_toArray h1) ?_
  exact h _ hs.1 hs.2.1 hs.2.2
theorem map_wv_one (xs : List UInt32) : ∀ u ∈ xs.map wv, u.oneCell' = true := by
  intro u hu
  obtain ⟨x, -, rfl⟩ := List.mem_map.1 hu
  rfl
theorem sizeK : (Try.prog.info? 78).map (·.size) = some 64 := by kernel_rfl
theorem size1W : (Try.prog.info? 47).map (·.size) = some 1 := by kernel_rfl
theorem size8 : (Try.prog.info? 48).map (·.size) = some 8 := by kernel_rfl

/-- A new variable of a type whose zero cells are known. -/
theorem wpList_allocZ {P : Program} {w : World} {ops : Array Oper} {rest : List Oper} {o : Oper} {a : Act} {Q : Exit → Act → World → Prop} (hgd : o.guard = none) (t : TypeId) (ho : o.op = .alloc t) (cs : List Value)
    (hz : ∀ (ev : Operand → Value) (w : World), (execOp ev { o with op := .alloc t }).run P w = .ok (.value (.pointer (some ⟨w.heap.size, 0, none⟩))) (w.alloc (.cells cs.toArray t)))
    (h : ∀ w', Blk w' w.heap.size t cs.toArray → Below w.heap.size w w' → w'.heap.size = w.heap.size + 1 → wpList P ops Q rest (a.put o.dst (.pointer (some ⟨w.heap.size, 0, none⟩))) w') : wpList P ops Q (o :: rest) a w := by
  have e : ({ o with op := .alloc t } : Oper) = o := by rw [← ho]
  rw [e] at hz
  exact wpList_run hgd (hz _ _) (h _ (Blk.new w t _) ((Below.refl _ _).alloc (Nat.le_refl _) _) (by simp))
def isBuild : Op → Bool
  | .build _ _ => true
  | _ => false

theorem wpList_build {P : Program} {w : World} {ops : Array Oper} {rest : List Oper} {o : Oper} {a : Act} {Q : Exit → Act → World → Prop} (hgd : o.guard = none) (_hbuild : isBuild o.op = true) (v : Value)
    (h : (execOp a.eval o).run P w = .ok (.value v) w) (hk : wpList P ops Q rest (a.put o.dst v) w) : wpList P ops Q (o :: rest) a w := wpList_run hgd h hk

theorem rounds_any (w : World) :
    Calls Try.prog 45 #[] w fun e w' => e = .returned (aggW sumK) ∧ Below w.heap.size w w' := by
  go_enter Try.func45, Try.ntmps45
  go_wp2_with (first
    | (refine wpList_allocZ rfl 78 rfl (List.replicate 64 (.int .u32 0)) (fun ev w => by kernel_rfl) ?_; intro w1 hblk1 hb1 hz1)
    | (refine wpList_build rfl rfl (aggW sumK) (by kernel_rfl) ?_)
    | (refine wpList_storeB rfl 78 (.tmp 0) (.tmp 1) rfl (sumK.map wv) rfl rfl hblk1 (sizeK.trans rfl) rfl (map_wv_one _) ?_; intro w2 hblk2 ho2 hz2))
  have hB : Below w.heap.size w w2 := hb1.trans (ho2.below hb1.size fun k hk => by omega)
  refine bodyPost_ret (v := aggW sumK) (results_cell_row rfl _ _ w.heap.size _ _ _ _ rfl hblk2 Try.underlying78 rfl (sizeK.trans rfl)) rfl ?_
  exact ⟨rfl, hB⟩

theorem Blk.word {w : World} {g : Nat} {t : TypeId} {xs : List UInt32} (h : Blk w g t (xs.map wv).toArray) {k : Nat} (hk : k < xs.length) : w.cell? ⟨g, k, none⟩ = Option.some (.int .u32 (xs[k].toNat : Int)) := by
  rw [h.at_, List.getElem?_map, List.getElem?_eq_getElem hk]
  rfl

theorem refRound_any (k : Nat) (w : World) (hk : k < 64) :
    Calls Try.prog 44 #[.int .i64 k] w fun e w' => e = .returned (.int .u32 (sumK[k]'hk).toNat) ∧ Below w.heap.size w w' := by
  have g1 : (k : Int) < 64 := by omega
  go_enter Try.func44, Try.ntmps44
  go_wp2_with (first
    | (refine wpList_allocZ rfl 78 rfl (List.replicate 64 (.int .u32 0)) (fun ev w => by kernel_rfl) ?_; intro w1 hblk1 hb1 hz1)
    | (refine wpList_build rfl rfl (aggW sumK) (by kernel_rfl) ?_)
    | (refine wpList_storeB rfl 78 (.tmp 3) (.tmp 4) rfl (sumK.map wv) rfl rfl hblk1 (sizeK.trans rfl) rfl (map_wv_one _) ?_; intro w2 hblk2 ho2 hz2; have hc := hblk2.word (k := k) hk))
  have hB : Below w.heap.size w w2 := hb1.trans (ho2.below hb1.size fun k hk => by omega)
  go_ret
  exact ⟨rfl, hB⟩

/-- The cells of a Hash. -/
def hashL (ws : List UInt32) (begun : Bool) (rest : List UInt8) (n : Nat) : List Value := ws.map wv ++ [.bool begun] ++ rest.map bv ++ [.int .i64 n]
theorem length_hashL (ws : List UInt32) (begun : Bool) (rest : List UInt8) (n : Nat) : (hashL ws begun rest n).length = ws.length + (rest.length + 2) := by
  simp only [hashL, List.length_append, List.length_map, List.length_cons, List.length_nil]; omega
theorem state_any (g : Nat) (ws : List UInt32) (begun : Bool) (rest : List UInt8) (n : Nat) (w : World) (hb : Blk w g 51 (hashL ws begun rest n).toArray) (hws : ws.length = 8) :
    Calls Try.prog 39 #[.pointer (some ⟨g, 0, none⟩)] w fun e w' => e = .returned (aggW (if begun then ws else sum0)) ∧ Below w.heap.size w w' := by
  have hc8 : w.cell? ⟨g, 8, none⟩ = some (.bool begun) := by
    rw [hb.at_]
    unfold hashL
    rw [List.append_assoc, List.append_assoc, List.getElem?_append_right (by simp [hws])]
    simp [hws]
  have hgl := hb.lt
  cases begun
  · go_enter Try.func39, Try.ntmps39
    go_wp2_with (first
      | (refine wpList_allocZ rfl 48 rfl (List.replicate 8 (.int .u32 0)) (fun ev w => by kernel_rfl) ?_; intro w1 hblk1 hb1 hz1; have hcc := (bcell hb1).1)
      | (refine wpList_build rfl rfl (aggW sum0) (by kernel_rfl) ?_)
      | (refine wpList_storeB rfl 48 (.tmp 2) (.tmp 11) rfl (sum0.map wv) rfl rfl hblk1 (size8.trans rfl) rfl (map_wv_one _) ?_; intro w2 hblk2 ho2 hz2))
    have hB : Below w.heap.size w w2 := hb1.trans (ho2.below hb1.size fun k hk => by omega)
    refine bodyPost_ret (v := aggW sum0) (results_cell_row rfl _ _ w.heap.size _ _ _ _ rfl hblk2 Try.underlying48 rfl (size8.trans rfl)) rfl ?_
    exact ⟨rfl, hB⟩
  · have hr : w.rangeAt g 0 (ws.map wv) := fun j v hv => by
      have hj : j < (ws.map wv).length := by
        rcases Nat.lt_or_ge j (ws.map wv).length with h | h
        · exact h
        · rw [List.getElem?_eq_none h] at hv; cases hv
      rw [Nat.zero_add, hb.at_]
      unfold hashL
      rw [List.append_assoc, List.append_assoc, List.getElem?_append_left hj]
      exact hv
    have hs : (Try.prog.info? 48).map (·.size) = some (ws.map wv).length := by rw [List.length_map, hws]; exact size8
    have Hr := Lib.hid hr
    have Hs := Lib.hid hs
    have Hb := Lib.hid hb
    clear hr hs hb
    go_enter Try.func39, Try.ntmps39
    go_wp2_with (first
      | (refine wpList_allocZ rfl 48 rfl (List.replicate 8 (.int .u32 0)) (fun ev w => by kernel_rfl) ?_; intro w1 hblk1 hb1 hz1; have hcc := (bcell hb1).1)
      | (refine wpList_load_mid rfl 48 (.tmp 9) rfl g 0 rfl (ws.map wv) _ (fun j v hv => ?_) Try.underlying48 rfl Hs.out ?_)
      | (refine wpList_storeB rfl 48 (.tmp 2) (.tmp 10) rfl (ws.map wv) rfl rfl hblk1 Hs.out (by simp [hws]) (map_wv_one _) ?_; intro w2 hblk2 ho2 hz2))
    · rw [hcc _ _ hgl]
      exact Hr.out j v hv
    · have hB : Below w.heap.size w w2 := hb1.trans (ho2.below hb1.size fun k hk => by omega)
      refine bodyPost_ret (v := aggW ws) (results_cell_row rfl _ _ w.heap.size _ _ _ _ rfl hblk2 Try.underlying48 rfl (Hs.out.trans (by simp))) rfl ?_
      exact ⟨rfl, hB⟩
end Go.Proofs.Ytmlkfkpffbbfaaa
