/- Cut and Fits of the program. -/
import Derived.Test.YtmlkfkpffbbfaaaShaLe
import Derived.Lib.SliceRun
namespace Go.Proofs.Ytmlkfkpffbbfaaa
open Go.RowKit

/-- clear of a row of one-cell elements in a block that is known whole. -/
theorem wpList_clear1 {P : Program} {w : World} {ops : Array Oper} {rest : List Oper} {o : Oper} {a : Act} {Q : Exit → Act → World → Prop} (hgd : o.guard = none) (s : Operand) {T e : TypeId}
    (ho : o.op = .call { callee := .builtin .clear, args := #[s], argTypes := #[T] }) {z : Value} (ht : P.underlying T = some (.slice e)) (hv : ∀ w, (zeroValue e).run P w = .ok z w) (hz : z.cells = #[z]) (h1 : z.oneCell' = true)
    {g off n c : Nat} (hs : a.eval s = .slice (some ⟨g, off, none⟩) n c) (hn : 0 < n) {t : TypeId} (xs ys zs : List Value) (hg : Blk w g t (xs ++ ys ++ zs).toArray) (hx : xs.length = off) (hy : ys.length = n)
    (h : ∀ w', Blk w' g t (xs ++ List.replicate n z ++ zs).toArray → Only (fun k => k = g) w w' → w'.heap.size = w.heap.size → wpList P ops Q rest (a.put o.dst (.tuple #[])) w') : wpList P ops Q (o :: rest) a w := by
  have hth := there_blk hg (o := off) (n := n) (by simp [hx, hy])
  have hr := Lib.run_clear_slice (P := P) w T e o.type z ht hv hz h1 g off n c hn (fun j hj => (hth j hj).1) (fun j hj => (hth j hj).2)
  have hb := setCells_blk g t (List.replicate n z) off w xs ys zs hg hx (by rw [List.length_replicate]; exact hy)
  refine wpList_plain hgd fun K hK => ?_
  refine wp_of_run (v := .tuple #[]) (w' := w.setCells g off (List.replicate n z)) ?_ (hK _ _ (h _ hb.1 hb.2.1 hb.2.2))
  unfold execOp
  simp only [ho, resolve, invoke, builtin, Sem.run_bind, Sem.run_pure, Result.andThen_ok, List.map_toArray, List.map_cons, List.map_nil, hs, hr]
theorem wpList_clear0 {P : Program} {w : World} {ops : Array Oper} {rest : List Oper} {o : Oper} {a : Act} {Q : Exit → Act → World → Prop} (hgd : o.guard = none) (s : Operand) {T e : TypeId}
    (ho : o.op = .call { callee := .builtin .clear, args := #[s], argTypes := #[T] }) (ht : P.underlying T = some (.slice e)) {g : Addr} {c : Nat} (hs : a.eval s = .slice (some g) 0 c)
    (h : wpList P ops Q rest (a.put o.dst (.tuple #[])) w) : wpList P ops Q (o :: rest) a w := by
  refine wpList_plain hgd fun K hK => ?_
  refine wp_of_run (v := .tuple #[]) (w' := w) ?_ (hK _ _ h)
  unfold execOp
  simp [ho, resolve, invoke, builtin, hs, Builtin.clear_, run_underlying ht]
/-- A guard for an arm: that clear. -/
theorem wpList_atClear {P : Program} {ops : Array Oper} {w : World} {rest : List Oper} {o : Oper} {a : Act} {Q : Exit → Act → World → Prop} (x : Operand) {T : TypeId} (_ho : o.op = .call { callee := .builtin .clear, args := #[x], argTypes := #[T] }) (h : wpList P ops Q (o :: rest) a w) : wpList P ops Q (o :: rest) a w := h
theorem results_cell_tmp {P : Program} {fn : Func} {p t : Tmp} {ty : TypeId} (h : fn.results = #[.cell p ty, .tmp t]) (tmps : Array Value) (w : World) (g : Nat) (t' : TypeId) (cs : Array Value) (d : TypeDesc) (x : Value)
    (hp : tmps.getD p undef = .pointer (some ⟨g, 0, none⟩)) (hx : tmps.getD t undef = x) (hg : Blk w g t' cs)
    (hu : P.underlying ty = some d) (hd : (match d with | .struct _ | .array _ _ => true | _ => false) = true) (hi : (P.info? ty).map (·.size) = some cs.size) :
    (results fn tmps).run P w = .ok (.tuple #[.agg cs, x]) w := by
  subst hx
  have hp' : tmps[p]?.getD undef = .pointer (some ⟨g, 0, none⟩) := by simpa using hp
  simp [results, h, hp', asAddr, run_loadVar_row w g t' ty cs (0, 0) d hg hu hd hi]
theorem run_fromDig (g k : Nat) (h : k < 32) (w : World) : (Instr.sliceAt 28 (.pointer (some ⟨g, 0, none⟩)) (some (.int .i64 (k : Int))) none none).run Try.prog w = .ok (.slice (some ⟨g, k, none⟩) (32 - k) (32 - k)) w := by
  have ha : Try.prog.underlying 28 = some (.array (Try.prog.arrayLen 28) (Try.prog.elem 28)) := by kernel_rfl
  have hl : Try.prog.arrayLen 28 = 32 := by kernel_rfl
  have hs : (sizeOf (Try.prog.elem 28)).run Try.prog w = .ok 1 w := by kernel_rfl
  rw [run_sliceAt_array_l w _ _ ha _ _ (by omega) (by rw [hl]; omega), hs, Result.andThen_ok, hl]
  unfold slicedAt
  rw [Int.toNat_natCast, if_neg (by omega), Nat.mul_one, addr_add, Nat.zero_add]
theorem run_endDig (g : Nat) (w : World) : (Instr.sliceAt 28 (.pointer (some ⟨g, 0, none⟩)) (some (.int .i64 32)) none none).run Try.prog w = .ok (.slice (some ⟨g, 0, none⟩) 0 0) w := by
  have ha : Try.prog.underlying 28 = some (.array (Try.prog.arrayLen 28) (Try.prog.elem 28)) := by kernel_rfl
  have hl : Try.prog.arrayLen 28 = 32 := by kernel_rfl
  have hs : (sizeOf (Try.prog.elem 28)).run Try.prog w = .ok 1 w := by kernel_rfl
  rw [run_sliceAt_array_l w _ _ ha _ _ (by omega) (by rw [hl]; decide), hs, Result.andThen_ok, hl]
  rfl
/-- A digest's front. -/
def cutL (d : List UInt8) (k : Nat) : List UInt8 := d.take k ++ List.replicate (32 - k) 0
def zero32 : List UInt8 := List.replicate 32 0
theorem length_cut (d : List UInt8) (k : Nat) (hd : d.length = 32) (hk : k ≤ 32) : (cutL d k).length = 32 := by
  simp only [cutL, List.length_append, List.length_take, List.length_replicate]; omega
theorem zeroU8 (w : World) : (zeroValue 5).run Try.prog w = .ok (.int .u8 0) w := by kernel_rfl
/-- What Cut answers. -/
def cutV (d : List UInt8) (i : Int) : Value := if 1 ≤ i ∧ i ≤ 32 then .tuple #[aggB (cutL d i.toNat), .int .i64 0] else .tuple #[aggB zero32, .int .i64 3]
set_option maxHeartbeats 1000000 in
theorem cut_any (d : List UInt8) (hd : d.length = 32) (i : Int) (hi1 : -9223372036854775808 ≤ i) (hi2 : i ≤ 9223372036854775807) (w : World) :
    Calls Try.prog 29 #[aggB d, .int .i64 i] w fun e w' => e = .returned (cutV d i) ∧ Below w.heap.size w w' := by
  have Hd := Lib.hid hd
  clear hd
  by_cases h1 : i < 1
  · have hv : Hid (cutV d i = .tuple #[aggB zero32, .int .i64 3]) := Lib.hid (by unfold cutV; rw [if_neg (by omega)])
    go_enter Try.func29, Try.ntmps29
    go_wp2_with (first
      | (refine wpList_at 2 rfl ?_; refine wpList_boxB rfl 28 (.tmp 0) rfl (d.map bv) rfl ?_; intro w1 hblk1 hb1 hz1)
      | (refine wpList_at 4 rfl ?_; refine wpList_allocZ rfl 28 rfl (List.replicate 32 (.int .u8 0)) (fun ev w => by kernel_rfl) ?_; intro w2 hblk2 hb2 hz2; rw [hz1] at hblk2)
      | (refine wpList_at 12 rfl ?_; refine wpList_build rfl rfl (aggB zero32) (by kernel_rfl) ?_)
      | (refine wpList_storeB rfl 28 (.tmp 4) (.tmp 12) rfl (zero32.map bv) rfl rfl hblk2 (sizeDig.trans rfl) rfl (map_bv_one _) ?_; intro w3 hblk3 ho3 hz3))
    have hB2 : Below w.heap.size w w2 := hb1.trans (hb2.mono hb1.size)
    refine bodyPost_ret (v := .tuple #[aggB zero32, .int .i64 3]) (results_cell_tmp rfl _ _ (w.heap.size + 1) _ _ _ _ rfl rfl hblk3 Try.underlying28 rfl (sizeDig.trans rfl)) rfl ?_
    exact ⟨by rw [hv.out], hB2.trans (ho3.below hB2.size fun k hk => by omega)⟩
  · by_cases h2 : 32 < i
    · have hv : Hid (cutV d i = .tuple #[aggB zero32, .int .i64 3]) := Lib.hid (by unfold cutV; rw [if_neg (by omega)])
      go_enter Try.func29, Try.ntmps29
      go_wp2_with (first
        | (refine wpList_at 2 rfl ?_; refine wpList_boxB rfl 28 (.tmp 0) rfl (d.map bv) rfl ?_; intro w1 hblk1 hb1 hz1)
        | (refine wpList_at 4 rfl ?_; refine wpList_allocZ rfl 28 rfl (List.replicate 32 (.int .u8 0)) (fun ev w => by kernel_rfl) ?_; intro w2 hblk2 hb2 hz2; rw [hz1] at hblk2)
        | (refine wpList_at 12 rfl ?_; refine wpList_build rfl rfl (aggB zero32) (by kernel_rfl) ?_)
        | (refine wpList_storeB rfl 28 (.tmp 4) (.tmp 12) rfl (zero32.map bv) rfl rfl hblk2 (sizeDig.trans rfl) rfl (map_bv_one _) ?_; intro w3 hblk3 ho3 hz3))
      have hB2 : Below w.heap.size w w2 := hb1.trans (hb2.mono hb1.size)
      refine bodyPost_ret (v := .tuple #[aggB zero32, .int .i64 3]) (results_cell_tmp rfl _ _ (w.heap.size + 1) _ _ _ _ rfl rfl hblk3 Try.underlying28 rfl (sizeDig.trans rfl)) rfl ?_
      exact ⟨by rw [hv.out], hB2.trans (ho3.below hB2.size fun k hk => by omega)⟩
    · obtain ⟨k, rfl⟩ : ∃ k : Nat, i = k := ⟨i.toNat, by omega⟩
      have hv : Hid (cutV d k = .tuple #[aggB (cutL d k), .int .i64 0]) := Lib.hid (by
        unfold cutV
        rw [if_pos (by omega), Int.toNat_natCast])
      have hs := map_bv_len (cutL d k) (length_cut d k Hd.out (by omega))
      have Hs := Lib.hid hs
      clear hs
      have g1 : ¬ (k : Int) < 1 := h1
      have g2 : (k : Int) ≤ 32 := by omega
      by_cases h32 : k = 32
      · subst h32
        have hsl := run_endDig
        have hcd : cutL d 32 = d := by unfold cutL; rw [List.take_of_length_le (by rw [Hd.out]; omega)]; simp
        rw [hcd] at hv Hs
        clear hcd
        rw [show ((32 : Nat) : Int) = 32 from rfl]
        rw [show ((32 : Nat) : Int) = 32 from rfl] at hv
        clear h1 h2 g1 g2
        go_enter Try.func29, Try.ntmps29
        go_wp2_with (first
          | (refine wpList_at 2 rfl ?_; refine wpList_boxB rfl 28 (.tmp 0) rfl (d.map bv) rfl ?_; intro w1 hblk1 hb1 hz1)
          | (refine wpList_at 4 rfl ?_; refine wpList_allocZ rfl 28 rfl (List.replicate 32 (.int .u8 0)) (fun ev w => by kernel_rfl) ?_; intro w2 hblk2 hb2 hz2; rw [hz1] at hblk2; have hblk12 := hblk1.below hb2 hblk1.lt)
          | (refine wpList_clear0 rfl (.tmp 14) rfl Try.underlying25 rfl ?_)
          | (refine wpList_at 15 rfl ?_; refine wpList_load_mid rfl 28 (.tmp 2) rfl w.heap.size 0 rfl (d.map bv) _ (range_blk hblk12) Try.underlying28 rfl Hs.out ?_)
          | (refine wpList_atStore 28 (.tmp 4) (.tmp 15) rfl ?_; refine wp_stop ?_))
        refine ⟨?_⟩
        refine wpList_storeB rfl 28 (.tmp 4) (.tmp 15) rfl (d.map bv) rfl rfl hblk2 Hs.out (by rw [List.length_map, Hd.out]; rfl) (map_bv_one _) ?_
        intro w3 hblk3 ho3 hz3
        go_wp2_with fail
        have hB2 : Below w.heap.size w w2 := hb1.trans (hb2.mono hb1.size)
        refine bodyPost_ret (v := .tuple #[aggB d, .int .i64 0]) (results_cell_tmp rfl _ _ (w.heap.size + 1) _ _ _ _ rfl rfl hblk3 Try.underlying28 rfl (Hs.out.trans (by simp))) rfl ?_
        exact ⟨by rw [hv.out], hB2.trans (ho3.below hB2.size fun k hk => by omega)⟩
      · have hk : k < 32 := by omega
        have hsl := fun g => run_fromDig g k hk
        have g3 : (k : Int) < 32 := by omega
        clear h1 h2 h32
        go_enter Try.func29, Try.ntmps29
        go_wp2_with (first
          | (refine wpList_at 2 rfl ?_; refine wpList_boxB rfl 28 (.tmp 0) rfl (d.map bv) rfl ?_; intro w1 hblk1 hb1 hz1)
          | (refine wpList_at 4 rfl ?_; refine wpList_allocZ rfl 28 rfl (List.replicate 32 (.int .u8 0)) (fun ev w => by kernel_rfl) ?_; intro w2 hblk2 hb2 hz2; rw [hz1] at hblk2; have hblk12 := hblk1.below hb2 hblk1.lt; have hbw := hb1.size; have hb2w := hb2; clear hb2)
          | (refine wpList_atClear (.tmp 14) rfl ?_; refine wp_stop ?_))
        refine ⟨?_⟩
        have hB2 : Below w.heap.size w w2 := hb1.trans (hb2w.mono hb1.size)
        refine wpList_clear1 rfl (.tmp 14) rfl Try.underlying25 zeroU8 rfl rfl (g := w.heap.size) (off := k) (n := 32 - k) (c := 32 - k) rfl (by omega) ((d.take k).map bv) ((d.drop k).map bv) [] (by
          rw [List.append_nil, ← List.map_append, List.take_append_drop]; exact hblk12) (by rw [List.length_map, List.length_take, Hd.out]; omega) (by rw [List.length_map, List.length_drop, Hd.out]) ?_
        intro w3 hblk3 ho3 hz3
        rw [List.append_nil, show (d.take k).map bv ++ List.replicate (32 - k) (Value.int .u8 0) = (cutL d k).map bv from by
          unfold cutL; rw [List.map_append, List.map_replicate]; rfl] at hblk3
        have hblk2' : Blk w3 (w.heap.size + 1) 28 (List.replicate 32 (Value.int .u8 0)).toArray := hblk2.only ho3 (by omega)
        have HB3 : Hid (Below w.heap.size w w3) := Lib.hid (hB2.trans (ho3.below hB2.size fun j hj => by omega))
        have Hb3 := Lib.hid hblk3
        clear hblk1 hblk2 hblk12 hb1 hb2w ho3 hblk3 hsl
        go_wp2_with (first
          | (refine wpList_at 15 rfl ?_; refine wpList_load_mid rfl 28 (.tmp 2) rfl w.heap.size 0 rfl ((cutL d k).map bv) _ (range_blk Hb3.out) Try.underlying28 rfl Hs.out ?_)
          | (refine wpList_atStore 28 (.tmp 4) (.tmp 15) rfl ?_; refine wp_stop ?_))
        refine ⟨?_⟩
        refine wpList_storeB rfl 28 (.tmp 4) (.tmp 15) rfl ((cutL d k).map bv) rfl rfl hblk2' Hs.out (by rw [List.length_map, length_cut d k Hd.out (by omega)]; rfl) (map_bv_one _) ?_
        intro w4 hblk4 ho4 hz4
        go_wp2_with fail
        refine bodyPost_ret (v := .tuple #[aggB (cutL d k), .int .i64 0]) (results_cell_tmp rfl _ _ (w.heap.size + 1) _ _ _ _ rfl rfl hblk4 Try.underlying28 rfl (Hs.out.trans (by simp))) rfl ?_
        exact ⟨by rw [hv.out], HB3.out.trans (ho4.below HB3.out.size fun k hk => by omega)⟩
end Go.Proofs.Ytmlkfkpffbbfaaa
